/- Layer 1 (sector): the law SectorSure. -/
import Derived.Test.YtccjjlefpdlegaaSurePure2
import Derived.Test.YtccjjlefpdlegaaRefSame
import Derived.Test.YtccjjlefpdlegaaHeld
import Derived.Deep.CutRange
import Derived.Laws.CopyOwn
namespace Go.Proofs.Ytccjjlefpdlegaa
open Go.RowKit
theorem zero_16 : (Try.prog.info? 56).bind (fun i => i.zero.map fun z => (i.size, z.cells)) = some (1024, Array.replicate 1024 (.int .u8 0)) := by kernel_rfl
theorem DSl.and {S S' : Nat → Prop} {v : Value} (h : DSl S v) (h' : DSl S' v) : DSl (fun b => S b ∧ S' b) v := fun sv lv f dn e =>
  ⟨fun a n c e' hp => ⟨(h _ _ _ _ e).1 a n c e' hp, (h' _ _ _ _ e).1 a n c e' hp⟩, fun a n c e' hp => ⟨(h _ _ _ _ e).2 a n c e' hp, (h' _ _ _ _ e).2 a n c e' hp⟩⟩
theorem DSl.imp {S S' : Nat → Prop} {v : Value} (h : DSl S v) (hi : ∀ b, S b → S' b) : DSl S' v := fun sv lv f dn e =>
  ⟨fun a n c e' hp => hi _ ((h _ _ _ _ e).1 a n c e' hp), fun a n c e' hp => hi _ ((h _ _ _ _ e).2 a n c e' hp)⟩
theorem zero56 : ∃ z : Value, z.cells = ((List.replicate 16 zeroS).map u8s).flatten.toArray ∧ ∀ w, (zeroValue 56).run Try.prog w = .ok z w := by
  obtain ⟨i0, hi, hx⟩ := Option.bind_eq_some_iff.1 zero_16
  obtain ⟨z0, hz0, hx⟩ := Option.map_eq_some_iff.1 hx
  simp only [Prod.mk.injEq] at hx
  refine ⟨z0, ?_, fun w => by simp [zeroValue, typeInfo, hi, hz0]⟩
  rw [hx.2, secs_zero]
  show _ = (List.replicate 1024 _).toArray
  rw [List.toArray_replicate]
/-- What the function's own blocks hold: the disk in T, what is sure in Sb. -/
structure SureAt (W : World) (T Sb : Nat) (d : DiskP) (sure : List (List UInt8)) (w : World) (v : Value) : Prop where
  s64 : ∀ x ∈ sure, x.length = 64
  len : sure.length = 16
  rowS : w.heap[Sb]? = some (.cells (sure.map u8s).flatten.toArray 56 (0, 0))
  disk : DiskV w.heap.size w v d
  sl : DSl (fun b => b ≠ T ∧ b ≠ Sb) v
  below : Below W.heap.size W w
def RowT (T : Nat) (w : World) (v : Value) : Prop := ∃ A, v = .agg A ∧ w.heap[T]? = some (.cells A 43 (0, 0))
def SureInv (W : World) (T Sb kk : Nat) (ls : List WriteP) (i : Nat) (w : World) : Prop :=
  ∃ d sure v, ((i ≤ kk ∧ SureA ls i d sure) ∨ (kk < i ∧ SureB ls kk i d sure)) ∧ SureAt W T Sb d sure w v ∧ RowT T w v
def SureMid (W : World) (T Sb kk : Nat) (ls : List WriteP) (i : Nat) (w : World) : Prop :=
  ∃ d sure v, ((i < kk ∧ SureA ls i d sure) ∨ (kk ≤ i ∧ SureB ls kk i d sure)) ∧ SureAt W T Sb d sure w v ∧ RowT T w v
theorem SureAt.keep {W : World} {T Sb : Nat} {d : DiskP} {sure : List (List UInt8)} {w w' : World} {v : Value} (h : SureAt W T Sb d sure w v) (hb : Below w.heap.size w w') : SureAt W T Sb d sure w' v :=
  ⟨h.s64, h.len, (hb.block _ (block_lt h.rowS)).trans h.rowS, (h.disk.below hb).tight, h.sl, h.below.trans (hb.mono h.below.size)⟩
theorem SureAt.other {W : World} {T Sb : Nat} {d d' : DiskP} {sure : List (List UInt8)} {w : World} {v v' : Value} (h : SureAt W T Sb d sure w v) (hd : DiskV w.heap.size w v' d') (hs : DSl (fun b => b ≠ T ∧ b ≠ Sb) v') : SureAt W T Sb d' sure w v' :=
  ⟨h.s64, h.len, h.rowS, hd, hs, h.below⟩
theorem RowT.keep {T : Nat} {w w' : World} {v : Value} (h : RowT T w v) (hb : Below w.heap.size w w') : RowT T w' v := by
  obtain ⟨A, rfl, h⟩ := h
  exact ⟨A, rfl, (hb.block _ (block_lt h)).trans h⟩
theorem RowT.row {T : Nat} {w : World} {A : Array Value} (h : RowT T w (.agg A)) : w.heap[T]? = some (.cells A 43 (0, 0)) := by
  obtain ⟨A', e, h⟩ := h
  cases e
  exact h
/-- A disk, laid over the four cells of block T. -/
theorem SureAt.put4 {W : World} {T Sb g : Nat} {d d' : DiskP} {sure : List (List UInt8)} {w : World} {v : Value} (h : SureAt W T Sb d sure w v) {a0 b0 c0 e0 a b c e : Value} (hrow : RowT g w (.agg #[a0, b0, c0, e0])) (hgS : g ≠ Sb) (hgW : W.heap.size ≤ g)
    (hd : DiskV w.heap.size w (.agg #[a, b, c, e]) d') (hs : DSl (fun b => b ≠ T ∧ b ≠ Sb) (.agg #[a, b, c, e])) (hg : DSl (· ≠ g) (.agg #[a, b, c, e])) :
    SureAt W T Sb d' sure (put4 w g a b c e) (.agg #[a, b, c, e]) ∧ RowT g (put4 w g a b c e) (.agg #[a, b, c, e]) :=
  ⟨⟨h.s64, h.len, put4_far h.rowS hgS _ _ _ _, by
    have := put4_disk hd hg a b c e
    simpa [put4, World.setCell] using this, hs, put4_below h.below hgW _ _ _ _⟩, ⟨_, rfl, put4_heap hrow.row _ _ _ _⟩⟩
/-- Behind a put: the new disk in a block of its own. -/
def SurePut (W : World) (T Sb : Nat) (sure : List (List UInt8)) (r : DiskP × Int) (w : World) (s12 s13 : Value) : Prop :=
  ∃ xb v o0 o1 o2 o3, s12 = .pointer (some ⟨xb, 0, none⟩) ∧ s13 = .int .i64 r.2 ∧ xb ≠ T ∧ xb ≠ Sb ∧ W.heap.size ≤ xb ∧ SureAt W T Sb r.1 sure w v ∧ RowT xb w v ∧ RowT T w (.agg #[o0, o1, o2, o3])
theorem loose_at {B : Nat} {w : World} {a : Option Addr} {n c : Nat} {ss : List WriteP} (h : Loose B w (.slice a n c) ss) {k : Nat} (hk : k < ss.length) :
    ∃ b off, a = some ⟨b, off, none⟩ ∧ b < B ∧ n = ss.length ∧ n ≤ c ∧ c ≤ 2 ^ 63 - 1 ∧ ∀ w', (∀ p : Addr, p.block < B → w'.cell? p = w.cell? p) → w'.cell? ⟨b, off + k * 65, none⟩ = some (.int .i64 ss[k].at_) ∧ (loadVar 44 ⟨b, off + k * 65 + 1, none⟩).run Try.prog w' = .ok (.agg (u8s ss[k].data).toArray) w' := by
  obtain ⟨h64, _, a', cap, hv, hnc, hcap, hcells⟩ := h
  cases hv
  obtain ⟨b, off, rfl, hBb, hc⟩ := hcells (by omega)
  obtain ⟨i44, hi44, hs44⟩ := info44
  have hat := flat_at wcells 65 ss (fun x hx => by rw [length_wcells, h64 x hx]) k ss[k] (List.getElem?_eq_getElem hk)
  refine ⟨b, off, rfl, hBb, rfl, hnc, hcap, fun w' hw => ⟨?_, ?_⟩⟩
  · exact (hw ⟨b, off + k * 65, none⟩ hBb).trans (hc _ _ (hat 0 (.int .i64 ss[k].at_) (by simp [wcells])))
  · exact run_load_big (P := Try.prog) (t := 44) Try.underlying44 (.inl ⟨_, _, rfl⟩) hi44 (w := w') (b := b) (off := off + k * 65 + 1) (cs := u8s ss[k].data) hs44 (by rw [length_u8s, h64 _ (List.getElem_mem hk)])
      (fun j u hj => by
        have e : off + k * 65 + 1 + j = off + (k * 65 + (j + 1)) := by omega
        rw [e]
        exact (hw ⟨b, off + (k * 65 + (j + 1)), none⟩ hBb).trans (hc _ _ (hat (j + 1) u (by simpa [wcells] using hj))))
theorem Row.farB {B g : Nat} {w w' : World} {v : Value} {sz n : Nat} {cs : List Value} (h : Row B w v sz n cs) (hs : Sl (· ≠ g) v) (ho : ∀ b, b ≠ g → w'.heap[b]? = w.heap[b]?) : Row B w' v sz n cs := by
  obtain ⟨hl, a, cap, rfl, h1, h2, h3⟩ := h
  refine ⟨hl, a, cap, rfl, h1, h2, fun hp => ?_⟩
  obtain ⟨b, off, rfl, hb, hc⟩ := h3 hp
  have := hs _ _ _ rfl hp
  refine ⟨b, off, rfl, hb, fun k u' hk => ?_⟩
  have e : w'.cell? ⟨b, off + k, none⟩ = w.cell? ⟨b, off + k, none⟩ := by unfold World.cell?; rw [ho b this]
  exact e.trans (hc k u' hk)
theorem DiskV.farB {B g : Nat} {w w' : World} {v : Value} {d : DiskP} (h : DiskV B w v d) (hs : DSl (· ≠ g) v) (ho : ∀ b, b ≠ g → w'.heap[b]? = w.heap[b]?) : DiskV B w' v d := by
  obtain ⟨sv, lv, rfl, h1, h2⟩ := h
  obtain ⟨q1, q2⟩ := hs _ _ _ _ rfl
  exact ⟨sv, lv, rfl, ⟨h1.1, h1.2.farB q1 ho⟩, ⟨h2.1, h2.2.farB q2 ho⟩⟩
/-- A sector of the sure ones, laid anew. -/
theorem SureAt.set {W : World} {T Sb : Nat} {d : DiskP} {sure : List (List UInt8)} {w : World} {v : Value} (h : SureAt W T Sb d sure w v) (hW : W.heap.size ≤ Sb) (m : Nat) (hm : m < 16) (xs : List UInt8) (hx : xs.length = 64) :
    ∃ w', (storeVar 44 ⟨Sb, m * 64, none⟩ (.agg (u8s xs).toArray)).run Try.prog w = .ok () w' ∧ SureAt W T Sb d (sure.set m xs) w' v ∧ ∀ b, b ≠ Sb → w'.heap[b]? = w.heap[b]? := by
  obtain ⟨i44, hi44, hs44⟩ := info44
  have hu : (u8s xs).length = 64 := by rw [length_u8s, hx]
  have hlen : (sure.map u8s).flatten.length = 1024 := by rw [length_flat u8s 64 sure (fun s hs => by rw [length_u8s, h.s64 s hs]), h.len]
  have hst := run_store_big (P := Try.prog) hi44 (cs := u8s xs) (off := m * 64) h.rowS (by rw [hu, hs44]) (by rw [hu]; simp only [List.size_toArray, hlen]; omega) (oneCell_u8s xs)
  have hh' := setRow_heap w Sb _ ((sure.map u8s).flatten.toArray.toList.take (m * 64) ++ u8s xs ++ (sure.map u8s).flatten.toArray.toList.drop (m * 64 + (u8s xs).length)).toArray _ _ h.rowS
  have hfl := flat_set 64 u8s sure m xs (fun s hs' => by rw [length_u8s, h.s64 s hs']) hu (by rw [h.len]; exact hm)
  have ho : ∀ b, b ≠ Sb → (w.setRow Sb ((sure.map u8s).flatten.toArray.toList.take (m * 64) ++ u8s xs ++ (sure.map u8s).flatten.toArray.toList.drop (m * 64 + (u8s xs).length)).toArray).heap[b]? = w.heap[b]? := fun b hb => setRow_other w Sb b _ hb
  refine ⟨_, hst, ⟨?_, by rw [List.length_set]; exact h.len, ?_, ?_, h.sl, ?_⟩, ho⟩
  · intro s hs
    rcases List.mem_or_eq_of_mem_set hs with h' | h'
    · exact h.s64 s h'
    · rw [h']; exact hx
  · rw [hfl]
    rw [hh']
    simp only [hu]
  · have hsz : (w.setRow Sb ((sure.map u8s).flatten.toArray.toList.take (m * 64) ++ u8s xs ++ (sure.map u8s).flatten.toArray.toList.drop (m * 64 + (u8s xs).length)).toArray).heap.size = w.heap.size := by simp [World.setRow]
    rw [hsz]
    exact h.disk.farB (h.sl.imp fun b hb => hb.2) ho
  · exact below_setRow h.below hW _
/-- What 'good' is worth behind writes kk .. j - 1. -/
def GoodJ (ls : List WriteP) (kk a : Nat) (x y : List UInt8) (j : Nat) (gb : Bool) : Prop :=
  (x = y → gb = true) ∧ ∀ (i : Nat) (hi : i < ls.length), kk ≤ i → i < j → ls[i].at_ = (a : Int) → ls[i].data = x → gb = true
theorem SureAt.load {W : World} {T Sb : Nat} {d : DiskP} {sure : List (List UInt8)} {w : World} {v : Value} (h : SureAt W T Sb d sure w v) (a : Nat) (ha : a < 16) :
    ∃ y, sure[a]? = some y ∧ y.length = 64 ∧ ∀ w', Below w.heap.size w w' → (loadVar 44 ⟨Sb, a * 64, none⟩).run Try.prog w' = .ok (.agg (u8s y).toArray) w' := by
  have hl : a < sure.length := by rw [h.len]; exact ha
  obtain ⟨i44, hi44, hs44⟩ := info44
  refine ⟨sure[a], List.getElem?_eq_getElem hl, h.s64 _ (List.getElem_mem hl), fun w' hb => ?_⟩
  have hat := flat_at u8s 64 sure (fun x hx => by rw [length_u8s, h.s64 x hx]) a sure[a] (List.getElem?_eq_getElem hl)
  have hrow := (h.keep hb).rowS
  exact run_load_big (P := Try.prog) (t := 44) Try.underlying44 (.inl ⟨_, _, rfl⟩) hi44 (w := w') (b := Sb) (off := a * 64) (cs := u8s sure[a]) hs44 (by rw [length_u8s, h.s64 _ (List.getElem_mem hl)])
    (fun j u hj => by rw [cell_of_row w' Sb (a * 64 + j) _ _ _ hrow]; simpa using hat j u hj)
set_option maxRecDepth 100000 in
set_option maxHeartbeats 2000000 in
theorem SectorSure_walk (v0 : Value) (ls : List WriteP) (fz mask : Int) (W : World) (h0 : Loose W.heap.size W v0 ls) (hf0 : 0 ≤ fz) (hf : fz < 256) (hm0 : 0 ≤ mask) (hm : mask < 2 ^ 64) :
    Calls Try.prog 7 #[v0, .int .u8 fz, .int .u64 mask] W fun e w' => e = .returned (.bool true) ∧ Below W.heap.size W w' := by
  obtain ⟨f, rfl⟩ := Int.eq_ofNat_of_zero_le hf0
  have HL := Lib.hid h0
  obtain ⟨hls, _, fa, fcap, rfl, hfn, hfc, _⟩ := h0
  unfold maxLen at hfc
  obtain ⟨L, hL⟩ : ∃ L, L = ls.length := ⟨_, rfl⟩
  rw [← hL] at hfn ⊢
  have HLL := Lib.hid hL
  have HM := Lib.hid (And.intro hm0 hm)
  have HF := Lib.hid hf
  clear hL hm0 hm hf0 hls
  have k1 := alive_any W
  go_enter Try.func7, Try.ntmps7
  go_wp2_with fail
  refine k1.mono ?_
  rintro e w0 ⟨rfl, hb0⟩
  clear k1
  by_cases hL2 : 200 < L
  · go_wp2_with fail
    go_ret
    exact ⟨rfl, hb0⟩
  obtain ⟨q1, q2⟩ := SureA.new ls
  have k1 := new_any 16 w0 (fun _ => True) (fun _ _ => trivial)
  rw [q1] at k1
  clear q1
  go_wp2_with fail
  refine k1.mono ?_
  rintro e w1 ⟨⟨v, rfl, hd1, _⟩, hb1⟩
  clear k1
  obtain ⟨d0, hd0⟩ : ∃ d, d = (newP 16).1 := ⟨_, rfl⟩
  rw [← hd0] at hd1 q2
  have HQ := Lib.hid q2
  clear q2 hd0
  obtain ⟨a1, n1, a2, n2, rfl, _, _⟩ := hd1.parts
  have hf := HF.out
  have hrem := fun w => run_rem Try.prog f (L + 1) (by omega) (by omega) w
  obtain ⟨kk, hkk⟩ : ∃ kk, kk = f % (L + 1) := ⟨_, rfl⟩
  have hkl : kk ≤ L := by rw [hkk]; have := Nat.mod_lt f (show 0 < L + 1 by omega); omega
  rw [← hkk] at hrem
  have HR := Lib.hid hrem
  clear hrem hkk
  obtain ⟨z, hz, hzr⟩ := zero56
  have HZ := Lib.hid hzr
  clear hzr
  go_wp2_with (first
    | (refine wp_rem_at .i64 (.tmp 31) (.tmp 34) 3 3 rfl rfl rfl rfl (HR.out _) ?_; refine Halt.in ?_))
  refine Halt.out ?_
  obtain ⟨T, hT⟩ : ∃ T, T = w1.heap.size := ⟨_, rfl⟩
  obtain ⟨u1, hu1⟩ : ∃ u, u = w1.alloc (.cells #[.slice a1 d0.secs.length n1, .slice a2 d0.loose.length n2, .int .i64 d0.fuse, .bool d0.down] 43) := ⟨_, rfl⟩
  have hbu : Below w1.heap.size w1 u1 := by rw [hu1]; exact Below.alloc (Below.refl _ _) (Nat.le_refl _) _
  have hsl : DSl (· ≠ T) (.agg #[.slice a1 d0.secs.length n1, .slice a2 d0.loose.length n2, .int .i64 d0.fuse, .bool d0.down]) := hd1.sl (fun b hb => by show b ≠ T; omega)
  have hd := hd1.below hbu
  have hrow : u1.heap[T]? = some (.cells #[.slice a1 d0.secs.length n1, .slice a2 d0.loose.length n2, .int .i64 d0.fuse, .bool d0.down] 43 (0, 0)) := by rw [hu1, hT]; exact heap_alloc_new w1 _
  have hB := (hb0.trans (hb1.mono hb0.size)).trans (hbu.mono (Nat.le_trans hb0.size hb1.size))
  have hTl : W.heap.size ≤ T := by have := hb0.size; have := hb1.size; omega
  rw [← hT, ← hu1]
  obtain ⟨u2, hu2⟩ : ∃ u, u = u1.alloc (.cells z.cells 56) := ⟨_, rfl⟩
  have hbu2 : Below u1.heap.size u1 u2 := by rw [hu2]; exact Below.alloc (Below.refl _ _) (Nat.le_refl _) _
  obtain ⟨Sb, hSb⟩ : ∃ S, S = u1.heap.size := ⟨_, rfl⟩
  have hrowS : u2.heap[Sb]? = some (.cells ((List.replicate 16 zeroS).map u8s).flatten.toArray 56 (0, 0)) := by rw [hu2, hSb, ← hz]; exact heap_alloc_new u1 _
  have hTS : T < Sb := by rw [hSb]; exact block_lt hrow
  have hrow := (hbu2.block T (by omega)).trans hrow
  have hd := (hd.tight.below hbu2)
  have hB := hB.trans (hbu2.mono hB.size)
  have hsl2 : DSl (fun b => b ≠ T ∧ b ≠ Sb) (.agg #[.slice a1 d0.secs.length n1, .slice a2 d0.loose.length n2, .int .i64 d0.fuse, .bool d0.down]) := hsl.and ((hd1.below hbu).tight.sl (fun b hb => by show b ≠ Sb; omega))
  have HU2 := Lib.hid hu2
  have HSb := Lib.hid hSb
  clear hbu hbu2 hd1 hb1 hb0 hT hu1 hu2 hSb hsl hz hf
  go_wp2_with (refine wp_alloc_to (w' := u2) 56 rfl rfl (HZ.out _) ?_ ?_; (exact HU2.out); refine Halt.in ?_)
  refine Halt.out ?_
  rw [← HSb.out]
  clear HZ HU2 HSb
  go_wp2_with fail
  go_loopw [11] (fun i wr => ∃ i' : Nat, i' ≤ L ∧ i = .int .i64 i' ∧ SureInv W T Sb kk ls i' wr) (fun i _ => L - (intOf i).toNat)
  case atStart => exact ⟨0, Nat.zero_le _, rfl, d0, _, _, .inl ⟨Nat.zero_le _, HQ.out⟩, ⟨fun x hx => by rw [(List.mem_replicate.1 hx).2]; rfl, by simp, hrowS, hd.tight, hsl2, hB⟩, ⟨_, rfl, hrow⟩⟩
  case round =>
    obtain ⟨i, hi, rfl, hinv⟩ := hrel
    have HINV := Lib.hid hinv
    clear hinv hsl2 hrow hrowS hd hB HQ
    by_cases hil : i < L
    · go_upto_if 44 with (fail)
      go_cut [] from 42 to 100 (fun wx => SureMid W T Sb kk ls i wx)
      case first =>
        obtain ⟨d, sure, v, hinv, hat, hrow⟩ := HINV.out
        obtain ⟨p1, q1, p2, q2, rfl, _, _⟩ := hat.disk.parts
        have G := hrow.row
        have C0 := cell_of_row wr _ 0 _ _ _ G
        have C1 := cell_of_row wr _ 1 _ _ _ G
        have C2 := cell_of_row wr _ 2 _ _ _ G
        have C3 := cell_of_row wr _ 3 _ _ _ G
        have HI := Lib.hid hinv
        have HA := Lib.hid hat
        have HR := Lib.hid hrow
        clear hinv hrow HINV
        by_cases hik : i = kk
        · have hA : SureA ls kk d sure := by
            rcases HI.out with ⟨_, h⟩ | ⟨h, _⟩
            · rw [← hik]; exact h
            · omega
          obtain ⟨f1, f2⟩ := hA.flush (by rw [← HLL.out]; exact hkl) (by rw [← HLL.out]; omega)
          have k2 := flush_any _ d wr hat.disk (fun b => b ≠ T ∧ b ≠ Sb) hat.sl (fun b hb => ⟨by have := block_lt G; omega, by have := block_lt hat.rowS; omega⟩)
          rw [f1] at k2
          have heq : ((i : Int) == (kk : Int)) = true := by rw [beq_iff_eq]; omega
          have HF := Lib.hid f2
          have HK := Lib.hid hik
          clear f1 f2 hA hat G hik
          go_wp2_with fail
          refine k2.mono ?_
          rintro e w5 ⟨⟨v', rfl, hd', hs'⟩, hb5⟩
          obtain ⟨x1, y1, x2, y2, rfl, _, _⟩ := hd'.parts
          have hat5 := HA.out.keep hb5
          have hrow5 := HR.out.keep hb5
          have G := hrow5.row
          clear k2 C0 C1 C2 C3
          have C0 := cell_of_row w5 _ 0 _ _ _ G
          have C1 := cell_of_row w5 _ 1 _ _ _ G
          have C2 := cell_of_row w5 _ 2 _ _ _ G
          have C3 := cell_of_row w5 _ 3 _ _ _ G
          have Z := frozen_row G
          have hfin := hat5.put4 hrow5 (Nat.ne_of_lt hTS) hTl hd' hs' (hs'.imp fun b h => h.1)
          have HFIN := Lib.hid hfin
          have HS' := Lib.hid hs'
          clear hfin hat5 hrow5 hd' hb5 G hs'
          go_wp2_with fail
          go_meet
          case rel => exact ⟨_, _, _, .inr ⟨by have := HK.out; omega, by rw [HK.out]; exact HF.out⟩, HFIN.out.1, HFIN.out.2⟩
        · have hne : ((i : Int) == (kk : Int)) = false := by rw [beq_eq_false_iff_ne]; omega
          clear hat G
          go_wp2_with fail
          go_meet
          case rel =>
            refine ⟨d, sure, _, ?_, HA.out, HR.out⟩
            rcases HI.out with ⟨h1, h2⟩ | ⟨h1, h2⟩
            · exact .inl ⟨by omega, h2⟩
            · exact .inr ⟨by omega, h2⟩
      case rest =>
        obtain ⟨d, sure, v, hinv, hat, hrow⟩ := hcut
        obtain ⟨p1, q1, p2, q2, rfl, _, _⟩ := hat.disk.parts
        have HI := Lib.hid hinv
        have HA := Lib.hid hat
        have HR := Lib.hid hrow
        clear hinv hrow HINV hat
        have hil' : i < ls.length := HLL.out ▸ hil
        obtain ⟨z, hz⟩ : ∃ z, z = ls[i].at_ := ⟨_, rfl⟩
        obtain ⟨xs, hxs⟩ : ∃ xs, xs = ls[i].data := ⟨_, rfl⟩
        have HZ := Lib.hid hz
        have HXS := Lib.hid hxs
        clear hz hxs
        go_upto_region 15 with (fail)
        go_cut [12, 13] from 50 to 64 (fun s12 s13 wx => SurePut W T Sb sure (putP d z xs) wx s12 s13)
        case first =>
          have G := HR.out.row
          obtain ⟨fb, foff, rfl, hfb, _, _, _, hcell⟩ := loose_at HL.out hil'
          have hx64 := HL.out.1 _ (List.getElem_mem hil')
          have hcell : ∀ w', Below wc.heap.size wc w' → _ := fun w' hb => hcell w' (fun p hp => (HA.out.below.trans (hb.mono HA.out.below.size)).cell hp)
          have hAt := fun w' hb => (hcell w' hb).1
          have hDat := fun w' hb => (hcell w' hb).2
          have hT0 : ∀ w', Below wc.heap.size wc w' → _ := fun w' hb => cell_of_row w' _ 0 _ _ _ ((HR.out.keep hb).row)
          have hT1 : ∀ w', Below wc.heap.size wc w' → _ := fun w' hb => cell_of_row w' _ 1 _ _ _ ((HR.out.keep hb).row)
          have hT2 : ∀ w', Below wc.heap.size wc w' → _ := fun w' hb => cell_of_row w' _ 2 _ _ _ ((HR.out.keep hb).row)
          have hT3 : ∀ w', Below wc.heap.size wc w' → _ := fun w' hb => cell_of_row w' _ 3 _ _ _ ((HR.out.keep hb).row)
          have hi0 : (0 : Int) ≤ (i : Int) := by omega
          have hi1 : (i : Int) < (L : Int) := by omega
          have kP := fun (w' : World) (hb : Below wc.heap.size wc w') => put_any _ d ls[i].at_ ls[i].data w' (HA.out.disk.below hb) hx64
          have h00 : Below wc.heap.size wc wc.drew := below_draws (Below.refl _ _) 1
          have hTlt := block_lt G
          have hSlt := block_lt HA.out.rowS
          have hF1 : ∀ b, wc.drew.heap.size ≤ b → b ≠ T ∧ b ≠ Sb := fun b hb => by
            have : wc.drew.heap.size = wc.heap.size := rfl
            omega
          rw [← HXS.out] at hDat
          rw [← HZ.out] at hAt
          simp only [← HXS.out, ← HZ.out] at kP
          obtain ⟨X, hX⟩ : ∃ X, X = (u8s xs).toArray := ⟨_, rfl⟩
          rw [← hX] at hDat
          simp only [← hX] at kP
          have KP := Lib.hid kP
          clear hcell hx64 kP hX G
          refine wp_region_start (fun w' => Below wc.heap.size wc w') (by kernel_rfl) h00 ?_
          refine wpAnyH_part [(false, 0), (false, 1), (false, 2), (false, 3), (false, 4), (false, 5), (false, 6), (false, 7), (false, 8), (false, 9), (false, 10)] (by kernel_rfl) h00 ?_
          iterate 10 (first | (refine heldI_skip rfl rfl ?_; simp only [Act.put, List.setIfInBounds_toArray, List.set_cons_zero, List.set_cons_succ]) | (refine heldI_take rfl ?_ rfl (fun w' hw' => ?_) ?_; rotate_left; (go_simp; first | done | with_reducible rfl); (try simp only [Act.put, List.setIfInBounds_toArray, List.set_cons_zero, List.set_cons_succ])))
          refine heldI_load rfl (.tmp 60) 44 rfl rfl rfl hDat ?_
          simp only [Act.put, List.setIfInBounds_toArray, List.set_cons_zero, List.set_cons_succ]
          refine heldI_nil ?_
          refine wpAnyH_ready (rs := [11, 15]) (by kernel_rfl) (by simp) ?_
          refine ready_cons rfl rfl (fun K hK => ?_) (ready_cons rfl rfl (fun K hK => ?_) AllReadyH.nil)
          · go_simp
            refine (KP.out _ h00 (fun b => b ≠ T ∧ b ≠ Sb) HA.out.sl hF1).mono ?_
            rintro e w5 ⟨⟨v', rfl, hd', hs'⟩, hb5⟩
            obtain ⟨x1, y1, x2, y2, rfl, _, _⟩ := hd'.parts
            have hS5 : Below wc.heap.size wc w5 := h00.trans (hb5.mono h00.size)
            refine hK.out _ _ hS5 ?_
            clear hK K
            refine wpAnyH_end [(false, 12), (false, 13), (false, 14), (true, 15), (true, 16), (false, 17)] (by kernel_rfl) hS5 ?_
            repeat (first | (refine heldI_skip rfl rfl ?_; simp only [Act.put, List.setIfInBounds_toArray, List.set_cons_zero, List.set_cons_succ]) | (refine heldI_take rfl ?_ rfl (fun w' hw' => ?_) ?_; rotate_left; (go_simp; first | done | with_reducible rfl); (try simp only [Act.put, List.setIfInBounds_toArray, List.set_cons_zero, List.set_cons_succ])))
            refine heldI_act rfl rfl fun K hK => ?_
            go_simp
            refine hK.out _ _ (hS5.alloc hS5.size _) ?_
            clear hK K
            have hS6 : Below wc.heap.size wc (w5.alloc (.cells #[.slice x1 (putP d z xs).1.secs.length y1, .slice x2 (putP d z xs).1.loose.length y2, .int .i64 (putP d z xs).1.fuse, .bool (putP d z xs).1.down] 43)) := hS5.alloc hS5.size _
            have hfin : SurePut W T Sb sure (putP d z xs) (w5.alloc (.cells #[.slice x1 (putP d z xs).1.secs.length y1, .slice x2 (putP d z xs).1.loose.length y2, .int .i64 (putP d z xs).1.fuse, .bool (putP d z xs).1.down] 43)) (.pointer (some ⟨w5.heap.size, 0, none⟩)) (.int .i64 (putP d z xs).2) := by
              have hsz := hS5.size
              have hWs := HA.out.below.size
              exact ⟨w5.heap.size, _, _, _, _, _, rfl, rfl, by omega, by omega, by omega, (HA.out.keep hS6).other (hd'.below (Below.alloc (Below.refl _ _) (Nat.le_refl _) _)).tight hs', ⟨_, rfl, heap_alloc_new w5 _⟩, HR.out.keep hS6⟩
            have HFIN := Lib.hid hfin
            clear hfin
            refine heldI_act rfl rfl fun K hK => ?_
            go_simp
            refine hK.out _ _ hS6 ?_
            clear hK K hS6
            repeat (first | (refine heldI_skip rfl rfl ?_; simp only [Act.put, List.setIfInBounds_toArray, List.set_cons_zero, List.set_cons_succ]) | (refine heldI_take rfl ?_ rfl (fun w' hw' => ?_) ?_; rotate_left; (go_simp; first | done | with_reducible rfl); (try simp only [Act.put, List.setIfInBounds_toArray, List.set_cons_zero, List.set_cons_succ])))
            refine heldI_nil ?_
            go_wp2_with fail
            go_meet
            case rel => exact HFIN.out
          · go_simp
            have hS4 : Below wc.heap.size wc (wc.alloc (.cells #[.slice none 0 0, .slice none 0 0, .int .i64 0, .bool false] 43)).drew := ((Below.refl _ _).alloc (Nat.le_refl _) _).drew
            refine hK.out _ _ hS4 ?_
            clear hK K
            have hG4 : (wc.alloc (.cells #[.slice none 0 0, .slice none 0 0, .int .i64 0, .bool false] 43)).drew.heap[wc.heap.size]? = some (.cells #[.slice none 0 0, .slice none 0 0, .int .i64 0, .bool false] 43 (0, 0)) := heap_alloc_new wc _
            obtain ⟨w4, hw4⟩ : ∃ w4, w4 = (wc.alloc (.cells #[.slice none 0 0, .slice none 0 0, .int .i64 0, .bool false] 43)).drew := ⟨_, rfl⟩
            rw [← hw4] at hS4 hG4 ⊢
            clear hw4
            have hlt4 := block_lt hG4
            have hF2 : ∀ b, w4.heap.size ≤ b → (b ≠ T ∧ b ≠ Sb) ∧ b ≠ wc.heap.size := fun b hb => by omega
            have HSL := Lib.hid (HA.out.sl.and (HA.out.disk.sl (S := fun b => b ≠ wc.heap.size) (fun b hb => by show b ≠ wc.heap.size; omega)))
            refine wpAnyH_end [(true, 11), (false, 12), (false, 13), (false, 14), (true, 16), (false, 17)] (by kernel_rfl) hS4 ?_
            refine heldI_act rfl rfl fun K hK => ?_
            go_simp
            refine (KP.out _ hS4 (fun b => (b ≠ T ∧ b ≠ Sb) ∧ b ≠ wc.heap.size) HSL.out hF2).mono ?_
            rintro e w5 ⟨⟨v', rfl, hd', hs'⟩, hb5⟩
            obtain ⟨x1, y1, x2, y2, rfl, _, _⟩ := hd'.parts
            have hS5 : Below wc.heap.size wc w5 := hS4.trans (hb5.mono hS4.size)
            refine hK.out _ _ hS5 ?_
            clear hK K
            repeat (first | (refine heldI_skip rfl rfl ?_; simp only [Act.put, List.setIfInBounds_toArray, List.set_cons_zero, List.set_cons_succ]) | (refine heldI_take rfl ?_ rfl (fun w' hw' => ?_) ?_; rotate_left; (go_simp; first | done | with_reducible rfl); (try simp only [Act.put, List.setIfInBounds_toArray, List.set_cons_zero, List.set_cons_succ])))
            have hG5 := (hb5.block _ hlt4).trans hG4
            have C0 := cell_of_row w5 _ 0 _ _ _ hG5
            have C1 := cell_of_row w5 _ 1 _ _ _ hG5
            have C2 := cell_of_row w5 _ 2 _ _ _ hG5
            have C3 := cell_of_row w5 _ 3 _ _ _ hG5
            have Z := frozen_row hG5
            obtain ⟨f1, f2⟩ := (HA.out.keep hS5).put4 (g := wc.heap.size) (T := T) (Sb := Sb) ⟨_, rfl, hG5⟩ (by omega) HA.out.below.size hd' (hs'.imp fun b h => h.1) (hs'.imp fun b h => h.2)
            have hS6 : ∀ a b c e, Below wc.heap.size wc (put4 w5 wc.heap.size a b c e) := fun a b c e => put4_below hS5 (Nat.le_refl _) a b c e
            have hfin : SurePut W T Sb sure (putP d z xs) _ (.pointer (some ⟨wc.heap.size, 0, none⟩)) (.int .i64 (putP d z xs).2) := ⟨wc.heap.size, _, _, _, _, _, rfl, rfl, by omega, by omega, HA.out.below.size, f1, f2, HR.out.keep (hS6 _ _ _ _)⟩
            have HFIN := Lib.hid hfin
            clear hfin f1 f2 hG5 hG4 hS4 hb5 hd'
            refine heldI_act rfl rfl fun K hK => ?_
            go_simp
            refine hK.out _ _ (hS6 _ _ _ _) ?_
            clear hK K hS6
            repeat (first | (refine heldI_skip rfl rfl ?_; simp only [Act.put, List.setIfInBounds_toArray, List.set_cons_zero, List.set_cons_succ]) | (refine heldI_take rfl ?_ rfl (fun w' hw' => ?_) ?_; rotate_left; (go_simp; first | done | with_reducible rfl); (try simp only [Act.put, List.setIfInBounds_toArray, List.set_cons_zero, List.set_cons_succ])))
            refine heldI_nil ?_
            go_wp2_with fail
            go_meet
            case rel => exact HFIN.out
        case rest =>
          obtain ⟨xb, v', o0, o1, o2, o3, rfl, rfl, hxT, hxS, hxW, hat, hrowx, hrowT⟩ := hcut
          obtain ⟨x1, y1, x2, y2, rfl, _, _⟩ := hat.disk.parts
          have GT := hrowT.row
          have GX := hrowx.row
          obtain ⟨fb, foff, rfl, hfb, _, _, _, hcell⟩ := loose_at HL.out hil'
          have hx64 := HL.out.1 _ (List.getElem_mem hil')
          have hl200 : ls.length ≤ 200 := by rw [← HLL.out]; omega
          obtain ⟨q, hq⟩ : ∃ q, q = inR ls[i] := ⟨_, rfl⟩
          have hE : (putP d z xs).2 = if q then 0 else 1 := by
            rw [HZ.out, HXS.out, hq]
            rcases HI.out with ⟨_, h2⟩ | ⟨h1, h2⟩
            · cases hc : inR ls[i] with
              | true => exact ((h2.put hil' hl200).1 hc).1
              | false => exact ((h2.put hil' hl200).2 hc).1
            · cases hc : inR ls[i] with
              | true => exact (h2.put h1 hil' hl200).1 hc
              | false => exact (h2.put h1 hil' hl200).2.1 hc
          have hI1 : i < kk → q = true → SureA ls (i + 1) (putP d z xs).1 (sure.set z.toNat xs) := fun hk hq' => by
            rw [HZ.out, HXS.out]
            rcases HI.out with ⟨_, h2⟩ | ⟨h1, _⟩
            · exact ((h2.put hil' hl200).1 (by rw [← hq]; exact hq')).2
            · omega
          have hI2 : i < kk → q = false → SureA ls (i + 1) (putP d z xs).1 sure := fun hk hq' => by
            rw [HZ.out, HXS.out]
            rcases HI.out with ⟨_, h2⟩ | ⟨h1, _⟩
            · exact ((h2.put hil' hl200).2 (by rw [← hq]; exact hq')).2
            · omega
          have hI3 : kk ≤ i → SureB ls kk (i + 1) (putP d z xs).1 sure := fun hk => by
            rw [HZ.out, HXS.out]
            rcases HI.out with ⟨h1, _⟩ | ⟨h1, h2⟩
            · omega
            · exact (h2.put h1 hil' hl200).2.2
          have hqz : q = (decide (0 ≤ z) && decide (z < 16)) := by rw [hq, HZ.out]; rfl
          rw [hE]
          rw [← HXS.out] at hx64
          obtain ⟨f1, f2⟩ := hat.put4 hrowT (Nat.ne_of_lt hTS) hTl hat.disk hat.sl (hat.sl.imp fun b h => h.1)
          have F1 := Lib.hid f1
          have F2 := Lib.hid f2
          have hi0 : (0 : Int) ≤ (i : Int) := by omega
          have hi1 : (i : Int) < (L : Int) := by omega
          have hcell : ∀ w', Below W.heap.size W w' → _ := fun w' hb => hcell w' (fun p hp => hb.cell hp)
          rw [← HXS.out, ← HZ.out] at hcell
          have HC := Lib.hid hcell
          have A0 := (hcell wc hat.below).1
          have C0 := cell_of_row wc _ 0 _ _ _ GX
          have C1 := cell_of_row wc _ 1 _ _ _ GX
          have C2 := cell_of_row wc _ 2 _ _ _ GX
          have C3 := cell_of_row wc _ 3 _ _ _ GX
          have D0 := cell_of_row wc _ 0 _ _ _ GT
          have D1 := cell_of_row wc _ 1 _ _ _ GT
          have D2 := cell_of_row wc _ 2 _ _ _ GT
          have D3 := cell_of_row wc _ 3 _ _ _ GT
          have Z := frozen_row GT
          have HI1 := Lib.hid hI1
          have HI2 := Lib.hid hI2
          have HI3 := Lib.hid hI3
          have HX64 := Lib.hid hx64
          have HQ := Lib.hid hqz
          clear hI1 hI2 hI3 hE hq hqz hat hrowx hrowT GT GX f1 f2 hcell hx64 HI HA HR
          cases q with
          | false =>
            simp only [Bool.false_eq_true, if_false]
            have hst : ∀ (j : Nat), j = i + 1 → SureInv W T Sb kk ls j (put4 wc T (.slice x1 (putP d z xs).1.secs.length y1) (.slice x2 (putP d z xs).1.loose.length y2) (.int .i64 (putP d z xs).1.fuse) (.bool (putP d z xs).1.down)) := fun j hj => by
              subst hj
              refine ⟨_, sure, _, ?_, F1.out, F2.out⟩
              by_cases hk : i < kk
              · exact .inl ⟨hk, HI2.out hk rfl⟩
              · exact .inr ⟨by omega, HI3.out (by omega)⟩
            have HST := Lib.hid hst
            clear hst
            by_cases h0 : 0 ≤ z
            · have z0 : decide (0 ≤ z) = true := by simp; omega
              have z1 : decide (z < 16) = false := by have := HQ.out; rw [z0] at this; simpa using this.symm
              clear h0
              go_wp2_with fail
              go_roundw
              case rel => exact ⟨i + 1, by omega, by go_num, HST.out _ rfl⟩
              case measure => simp [intOf]; omega
            · have z0 : decide (0 ≤ z) = false := by simp; omega
              clear h0
              go_wp2_with fail
              go_roundw
              case rel => exact ⟨i + 1, by omega, by go_num, HST.out _ rfl⟩
              case measure => simp [intOf]; omega
          | true =>
            simp only [if_true]
            have zz := HQ.out
            have z0 : decide (0 ≤ z) = true := by cases h : decide (0 ≤ z) <;> simp [h] at zz ⊢
            have z1 : decide (z < 16) = true := by cases h : decide (z < 16) <;> simp [h] at zz ⊢
            clear zz
            by_cases hk : i < kk
            · have hk1 : decide ((i : Int) < (kk : Int)) = true := by simp; omega
              obtain ⟨m, rfl⟩ := Int.eq_ofNat_of_zero_le (of_decide_eq_true z0)
              have hm16 : m < 16 := by have := of_decide_eq_true z1; omega
              obtain ⟨w7, hw7⟩ : ∃ w7, w7 = put4 wc T (.slice x1 (putP d (m : Int) xs).1.secs.length y1) (.slice x2 (putP d (m : Int) xs).1.loose.length y2) (.int .i64 (putP d (m : Int) xs).1.fuse) (.bool (putP d (m : Int) xs).1.down) := ⟨_, rfl⟩
              have f1 := F1.out
              have f2 := F2.out
              rw [← hw7] at f1 f2
              have hi1' := HI1.out hk rfl
              rw [Int.toNat_natCast] at hi1'
              have HN := Lib.hid hi1'
              have f1' := f1.keep (below_draws (Below.refl _ _) 1)
              have f2' := f2.keep (below_draws (Below.refl _ _) 1)
              obtain ⟨w9, hst, g1, g2⟩ := f1'.set (Nat.le_trans hTl (Nat.le_of_lt hTS)) m hm16 xs HX64.out
              have hDat := (HC.out _ f1'.below).2
              have A7 := (HC.out _ f1.below).1
              change (loadVar 44 _).run Try.prog w7.drew = _ at hDat
              change (storeVar 44 _ _).run Try.prog w7.drew = _ at hst
              have G1 := Lib.hid g1
              have G2 := Lib.hid (show RowT T w9 (.agg #[.slice x1 (putP d (m : Int) xs).1.secs.length y1, .slice x2 (putP d (m : Int) xs).1.loose.length y2, .int .i64 (putP d (m : Int) xs).1.fuse, .bool (putP d (m : Int) xs).1.down]) from ⟨_, rfl, (g2 T (Nat.ne_of_lt hTS)).trans f2'.row⟩)
              obtain ⟨X, hX⟩ : ∃ X, X = (u8s xs).toArray := ⟨_, rfl⟩
              rw [← hX] at hDat hst
              have hm1 : (m : Int) < 16 := by omega
              dsimp only [put4] at hw7
              have HW7 := Lib.hid hw7
              clear hw7 f1 f2 f1' f2' g1 g2 hX hi1' F1 F2
              go_wp2_with fail
              rw [← HW7.out]
              clear HW7
              go_still_tail 11, (by kernel_rfl)
              refine still_load (.tmp 98) 44 rfl rfl rfl hDat ?_
              repeat still_step
              refine wpStill_nil ?_
              change wpList _ _ _ _ _ w7.drew
              clear hDat
              refine wp_store_at (.tmp 100) (.tmp 99) 44 rfl rfl rfl rfl hst ?_
              clear hst
              go_wp2_with fail
              go_roundw
              case rel => exact ⟨i + 1, by omega, by go_num, _, sure.set m xs, _, .inl ⟨hk, HN.out⟩, G1.out, G2.out⟩
              case measure => simp [intOf]; omega
            · have hk1 : decide ((i : Int) < (kk : Int)) = false := by simp; omega
              go_wp2_with fail
              go_roundw
              case rel => exact ⟨i + 1, by omega, by go_num, _, sure, _, .inr ⟨by omega, HI3.out (by omega)⟩, F1.out, F2.out⟩
              case measure => simp [intOf]; omega
    · obtain rfl : L = i := by omega
      have hl200 : ls.length ≤ 200 := by rw [← HLL.out]; omega
      go_upto_if 104 with (fail)
      go_cut [] from 101 to 109 (fun wx => SureMid W T Sb kk ls L wx)
      case first =>
        obtain ⟨d, sure, v, hinv, hat, hrow⟩ := HINV.out
        obtain ⟨p1, q1, p2, q2, rfl, _, _⟩ := hat.disk.parts
        have G := hrow.row
        have C0 := cell_of_row wr _ 0 _ _ _ G
        have C1 := cell_of_row wr _ 1 _ _ _ G
        have C2 := cell_of_row wr _ 2 _ _ _ G
        have C3 := cell_of_row wr _ 3 _ _ _ G
        have HI := Lib.hid hinv
        have HA := Lib.hid hat
        have HR := Lib.hid hrow
        clear hinv hrow HINV
        by_cases hik : kk = L
        · have hA : SureA ls kk d sure := by
            rcases HI.out with ⟨_, h⟩ | ⟨h, _⟩
            · rw [hik]; exact h
            · omega
          obtain ⟨f1, f2⟩ := hA.flush (by rw [← HLL.out]; exact hkl) (by rw [← HLL.out]; omega)
          have k2 := flush_any _ d wr hat.disk (fun b => b ≠ T ∧ b ≠ Sb) hat.sl (fun b hb => ⟨by have := block_lt G; omega, by have := block_lt hat.rowS; omega⟩)
          rw [f1] at k2
          have heq : ((kk : Int) == (L : Int)) = true := by rw [beq_iff_eq]; omega
          have HF := Lib.hid f2
          have HK := Lib.hid hik
          clear f1 f2 hA hat G hik
          go_wp2_with fail
          refine k2.mono ?_
          rintro e w5 ⟨⟨v', rfl, hd', hs'⟩, hb5⟩
          obtain ⟨x1, y1, x2, y2, rfl, _, _⟩ := hd'.parts
          have hat5 := HA.out.keep hb5
          have hrow5 := HR.out.keep hb5
          have G := hrow5.row
          clear k2 C0 C1 C2 C3
          have C0 := cell_of_row w5 _ 0 _ _ _ G
          have C1 := cell_of_row w5 _ 1 _ _ _ G
          have C2 := cell_of_row w5 _ 2 _ _ _ G
          have C3 := cell_of_row w5 _ 3 _ _ _ G
          have Z := frozen_row G
          have hfin := hat5.put4 hrow5 (Nat.ne_of_lt hTS) hTl hd' hs' (hs'.imp fun b h => h.1)
          have HFIN := Lib.hid hfin
          have HS' := Lib.hid hs'
          clear hfin hat5 hrow5 hd' hb5 G hs'
          go_wp2_with fail
          go_meet
          case rel => exact ⟨_, _, _, .inr ⟨by have := HK.out; omega, by rw [← HK.out]; exact HF.out⟩, HFIN.out.1, HFIN.out.2⟩
        · have hne : ((kk : Int) == (L : Int)) = false := by rw [beq_eq_false_iff_ne]; omega
          clear hat G
          go_wp2_with fail
          go_meet
          case rel =>
            refine ⟨d, sure, _, ?_, HA.out, HR.out⟩
            rcases HI.out with ⟨h1, h2⟩ | ⟨h1, h2⟩
            · exact .inl ⟨by omega, h2⟩
            · exact .inr ⟨by omega, h2⟩
      case rest =>
        obtain ⟨d, sure, v, hinv, hat, hrow⟩ := hcut
        have hSB : SureB ls kk ls.length d sure := by
          rw [← HLL.out]
          rcases hinv with ⟨h, _⟩ | ⟨_, h⟩
          · omega
          · exact h
        obtain ⟨s1, s2⟩ := hSB.start hl200 mask
        obtain ⟨p1, q1, p2, q2, rfl, _, _⟩ := hat.disk.parts
        have G := hrow.row
        have k2 := start_any _ d mask wc hat.disk HM.out.1 HM.out.2 (fun b => b ≠ T ∧ b ≠ Sb) hat.sl (fun b hb => ⟨by have := block_lt G; omega, by have := block_lt hat.rowS; omega⟩)
        rw [s1] at k2
        obtain ⟨d1, hd1⟩ : ∃ d1, d1 = (startP d mask).1 := ⟨_, rfl⟩
        rw [← hd1] at k2 s2
        have C0 := cell_of_row wc _ 0 _ _ _ G
        have C1 := cell_of_row wc _ 1 _ _ _ G
        have C2 := cell_of_row wc _ 2 _ _ _ G
        have C3 := cell_of_row wc _ 3 _ _ _ G
        have HS2 := Lib.hid s2
        have HA := Lib.hid hat
        have HR := Lib.hid hrow
        clear s1 s2 hd1 hinv hSB G hat hrow HINV
        go_wp2_with fail
        refine k2.mono ?_
        rintro e w5 ⟨⟨v', rfl, hd', hs'⟩, hb5⟩
        obtain ⟨x1, y1, x2, y2, rfl, _, _⟩ := hd'.parts
        have hat5 := HA.out.keep hb5
        have hrow5 := HR.out.keep hb5
        have G := hrow5.row
        clear k2 C0 C1 C2 C3
        have C0 := cell_of_row w5 _ 0 _ _ _ G
        have C1 := cell_of_row w5 _ 1 _ _ _ G
        have C2 := cell_of_row w5 _ 2 _ _ _ G
        have C3 := cell_of_row w5 _ 3 _ _ _ G
        have Z := frozen_row G
        obtain ⟨f1, f2⟩ := hat5.put4 hrow5 (Nat.ne_of_lt hTS) hTl hd' hs' (hs'.imp fun b h => h.1)
        have F1 := Lib.hid f1
        have F2 := Lib.hid f2
        clear f1 f2 hat5 hrow5 hd' hb5 G hs' HA HR
        go_wp2_with fail
        go_loopw [14] (fun i wr => ∃ a : Nat, a ≤ 16 ∧ i = .int .i64 a ∧ SureAt W T Sb d1 sure wr (.agg #[.slice x1 d1.secs.length y1, .slice x2 d1.loose.length y2, .int .i64 d1.fuse, .bool d1.down]) ∧ RowT T wr (.agg #[.slice x1 d1.secs.length y1, .slice x2 d1.loose.length y2, .int .i64 d1.fuse, .bool d1.down])) (fun i _ => 16 - (intOf i).toNat)
        case atStart => exact ⟨0, Nat.zero_le _, rfl, F1.out, F2.out⟩
        case round =>
          obtain ⟨a, ha, rfl, hat, hrow⟩ := hrel
          clear F1 F2 C0 C1 C2 C3 Z
          by_cases hlt : a < 16
          · have G := hrow.row
            have C0 := cell_of_row wr _ 0 _ _ _ G
            have C1 := cell_of_row wr _ 1 _ _ _ G
            have C2 := cell_of_row wr _ 2 _ _ _ G
            have C3 := cell_of_row wr _ 3 _ _ _ G
            have k3 := read_any _ d1 (a : Int) wr hat.disk
            obtain ⟨r1, r2⟩ := HS2.out a hlt
            have hx64 := read_len hat.disk.lens.1 hat.disk.lens.2 (a : Int)
            obtain ⟨x, hx⟩ : ∃ x, x = (readP d1 (a : Int)).1 := ⟨_, rfl⟩
            rw [r1, ← hx] at k3
            rw [← hx] at r2 hx64
            have HA := Lib.hid hat
            have HR := Lib.hid hrow
            have HR2 := Lib.hid r2
            clear r1 r2 hx hat hrow G
            obtain ⟨X, hX⟩ : ∃ X, X = (u8s x).toArray := ⟨_, rfl⟩
            rw [← hX] at k3
            have hXs : X.size = 64 := by rw [hX]; simp [length_u8s, hx64]
            have hX1 : ∀ v ∈ X.toList, v.oneCell' = true := by rw [hX]; exact oneCell_u8s x
            go_wp2_with fail
            refine k3.mono ?_
            rintro e w7 ⟨rfl, hb7⟩
            obtain ⟨z0, w7a, w8, hzr, hwa, hst, RX, hb8⟩ := fresh64 w7 X hXs hX1
            have hb78 : Below wr.heap.size wr w8 := hb7.trans (hb8.mono hb7.size)
            have hxb := block_lt RX
            obtain ⟨y, hy, hy64, hlS⟩ := (HA.out.keep hb78).load a hlt
            have HA8 := Lib.hid (HA.out.keep hb78)
            have HR8 := Lib.hid (HR.out.keep hb78)
            have hxT : w7.heap.size ≠ T := by have := block_lt HR.out.row; have := hb7.size; omega
            have HZR := Lib.hid hzr
            have HWA := Lib.hid hwa
            have HX := Lib.hid hX
            have HY := Lib.hid hy
            obtain ⟨xb, hxbe⟩ : ∃ xb, xb = w7.heap.size := ⟨_, rfl⟩
            clear hzr hwa k3 hb7 hb8 hb78 C0 C1 C2 C3 hX hX1 hy
            go_wp2_with (refine wp_alloc_to (w' := w7a) 44 rfl rfl (HZR.out _) ?_ ?_; (exact HWA.out); refine Halt.in ?_)
            refine Halt.out ?_
            rw [← hxbe] at hst RX hxb hxT ⊢
            clear HZR HWA hxbe
            go_wp2_with (refine wp_store_at (.tmp 15) (.tmp 124) 44 rfl rfl rfl rfl hst ?_; refine Halt.in ?_)
            refine Halt.out ?_
            clear hst
            have hlX : ∀ w', Below w8.heap.size w8 w' → (loadVar 44 ⟨xb, 0, none⟩).run Try.prog w' = .ok (.agg X) w' := fun w' hb => by
              obtain ⟨i44, hi44, hs44⟩ := info44
              have hrow := (hb.block _ hxb).trans RX
              have := run_load_big (P := Try.prog) (t := 44) Try.underlying44 (.inl ⟨_, _, rfl⟩) hi44 (w := w') (b := xb) (off := 0) (cs := X.toList) hs44 (by simpa using hXs)
                (fun j u hj => by rw [cell_of_row w' xb (0 + j) _ _ _ hrow]; simpa using hj)
              simpa using this
            obtain ⟨Y, hYe⟩ : ∃ Y, Y = (u8s y).toArray := ⟨_, rfl⟩
            rw [← hYe] at hlS
            obtain ⟨q0, hq0⟩ : ∃ q, q = decide (x = y) := ⟨_, rfl⟩
            have hq : ∀ w, (Op.equalIn 10000 44 (.agg X) (.agg Y)).run Try.prog w = .ok q0 w := fun w => by
              rw [HX.out, hYe, hq0]
              exact equal44 hx64 hy64 w
            have HQ0 := Lib.hid hq0
            have HYE := Lib.hid hYe
            have HLX := Lib.hid hlX
            have h00 : Below w8.heap.size w8 w8.drew := below_draws (Below.refl _ _) 1
            have hlX := hlX w8.drew h00
            have hlS := hlS w8.drew h00
            have hq := hq w8.drew
            have ha0 : (0 : Int) ≤ (a : Int) := by omega
            have ha1 : (a : Int) < 16 := by omega
            clear hq0 hYe
            go_wp2_with fail
            refine wp_region_still_lit (by kernel_rfl) (by kernel_rfl) ?_
            refine still_load (.tmp 15) 44 rfl rfl rfl hlX ?_
            repeat still_step
            refine still_load (.tmp 128) 44 rfl rfl rfl hlS ?_
            repeat still_step
            refine wpStill_nil ?_
            change Exit.then _ _ _ _ w8.drew
            clear hlX hlS hq
            have hst8 : SureAt W T Sb d1 sure w8.drew _ ∧ RowT T w8.drew _ ∧ w8.drew.heap[xb]? = _ := ⟨HA8.out.keep h00, HR8.out.keep h00, RX⟩
            obtain ⟨w9, hw9⟩ : ∃ w9, w9 = w8.drew := ⟨_, rfl⟩
            rw [← hw9] at hst8 ⊢
            have HLX9 := Lib.hid (fun w' (hb : Below w9.heap.size w9 w') => HLX.out w' (by rw [hw9] at hb; exact h00.trans hb))
            have HST8 := Lib.hid hst8
            clear hw9 hst8 HLX HA8 HR8 RX h00 hxb
            go_wp2_with fail
            go_loopw [17, 18] (fun g i wr => ∃ (j : Nat) (gb : Bool), kk ≤ j ∧ j ≤ L ∧ g = .bool gb ∧ i = .int .i64 j ∧ GoodJ ls kk a x y j gb ∧ Below w9.heap.size w9 wr) (fun _ i _ => L - (intOf i).toNat)
            case atStart => exact ⟨kk, q0, Nat.le_refl _, hkl, rfl, rfl, ⟨fun h => by rw [HQ0.out]; exact decide_eq_true h, fun i hi h1 h2 => absurd h1 (by omega)⟩, Below.refl _ _⟩
            case round =>
              obtain ⟨j, gb, hj1, hj2, rfl, rfl, hg, hb9⟩ := hrel
              have HG := Lib.hid hg
              clear hg
              by_cases hjl : j < L
              · have hjl' : j < ls.length := HLL.out ▸ hjl
                obtain ⟨fb, foff, rfl, hfb, _, _, _, hcell⟩ := loose_at HL.out hjl'
                have hx64' := HL.out.1 _ (List.getElem_mem hjl')
                have hcell : ∀ w', Below wr.heap.size wr w' → _ := fun w' hb => hcell w' (fun p hp => ((HST8.out.1.below.trans (hb9.mono HST8.out.1.below.size)).trans (hb.mono (Nat.le_trans HST8.out.1.below.size hb9.size))).cell hp)
                have hAt := fun w' hb => (hcell w' hb).1
                have hDat := fun w' hb => (hcell w' hb).2
                have hlX := fun w' (hb : Below wr.heap.size wr w') => HLX9.out w' (hb9.trans (hb.mono hb9.size))
                have h00 : Below wr.heap.size wr wr.drew := below_draws (Below.refl _ _) 1
                have hj0 : (0 : Int) ≤ (j : Int) := by omega
                have hj3 : (j : Int) < (L : Int) := by omega
                obtain ⟨Z, hZ⟩ : ∃ Z, Z = (u8s ls[j].data).toArray := ⟨_, rfl⟩
                rw [← hZ] at hDat
                obtain ⟨z, hz⟩ : ∃ z, z = ls[j].at_ := ⟨_, rfl⟩
                rw [← hz] at hAt
                obtain ⟨q, hqd⟩ : ∃ q, q = decide (ls[j].data = x) := ⟨_, rfl⟩
                have hq : ∀ w, (Op.equalIn 10000 44 (.agg Z) (.agg X)).run Try.prog w = .ok q w := fun w => by
                  rw [HX.out, hZ, hqd]
                  exact equal44 hx64' hx64 w
                have HB := Lib.hid (hb9.drew)
                have HQD := Lib.hid hqd
                have HZ := Lib.hid hz
                have hrnd : ∀ g : Bool, (gb = true → g = true) → (z = (a : Int) → q = true → g = true) → GoodJ ls kk a x y (j + 1) g := fun g h1 h2 => by
                  refine ⟨fun h => h1 (HG.out.1 h), fun i hi k1 k2 k3 k4 => ?_⟩
                  by_cases hij : i < j
                  · exact h1 (HG.out.2 i hi k1 hij k3 k4)
                  · obtain rfl : i = j := by omega
                    exact h2 (by rw [HZ.out]; exact k3) (by rw [HQD.out]; exact decide_eq_true k4)
                have HRND := Lib.hid hrnd
                clear hcell hZ hz hqd hrnd hx64' hb9
                cases gb with
                | true =>
                  clear hAt hDat hlX hq
                  go_wp2_with fail
                  refine wp_region_I [(false, 0), (false, 1), (false, 2), (false, 3), (false, 4), (false, 5), (false, 6), (false, 7), (false, 8), (false, 9), (false, 10), (false, 11), (false, 12), (false, 13), (false, 14), (false, 15), (false, 16), (false, 17), (false, 18), (false, 19)] (fun w' => Below wr.heap.size wr w') (by kernel_rfl) (by kernel_rfl) h00 ?_
                  repeat (first | (refine heldI_skip rfl rfl ?_; simp only [Act.put, List.setIfInBounds_toArray, List.set_cons_zero, List.set_cons_succ]) | (refine heldI_take rfl ?_ rfl (fun w' hw' => ?_) ?_; rotate_left; (go_simp; first | done | with_reducible rfl); (try simp only [Act.put, List.setIfInBounds_toArray, List.set_cons_zero, List.set_cons_succ])))
                  refine heldI_nil ?_
                  go_wp2_with fail
                  go_roundw
                  case rel => exact ⟨j + 1, true, by omega, by omega, rfl, by go_num, HRND.out _ (fun _ => rfl) (fun _ _ => rfl), HB.out⟩
                  case measure => simp [intOf]; omega
                | false =>
                  by_cases hza : z = (a : Int)
                  · have hze : (z == (a : Int)) = true := by rw [beq_iff_eq]; exact hza
                    have HZA := Lib.hid hza
                    clear hza
                    go_wp2_with fail
                    refine wp_region_I [(false, 0), (false, 1), (false, 2), (false, 3), (false, 4), (false, 5), (false, 6), (false, 7), (false, 8), (false, 9), (false, 10), (false, 11), (false, 12), (false, 13), (false, 14), (false, 15), (false, 16), (false, 17), (false, 18), (false, 19)] (fun w' => Below wr.heap.size wr w') (by kernel_rfl) (by kernel_rfl) h00 ?_
                    iterate 14 (first | (refine heldI_skip rfl rfl ?_; simp only [Act.put, List.setIfInBounds_toArray, List.set_cons_zero, List.set_cons_succ]) | (refine heldI_take rfl ?_ rfl (fun w' hw' => ?_) ?_; rotate_left; (go_simp; first | done | with_reducible rfl); (try simp only [Act.put, List.setIfInBounds_toArray, List.set_cons_zero, List.set_cons_succ])))
                    refine heldI_load rfl (.tmp 151) 44 rfl rfl rfl hDat ?_
                    simp only [Act.put, List.setIfInBounds_toArray, List.set_cons_zero, List.set_cons_succ]
                    refine heldI_load rfl (.tmp 15) 44 rfl rfl rfl hlX ?_
                    simp only [Act.put, List.setIfInBounds_toArray, List.set_cons_zero, List.set_cons_succ]
                    repeat (first | (refine heldI_skip rfl rfl ?_; simp only [Act.put, List.setIfInBounds_toArray, List.set_cons_zero, List.set_cons_succ]) | (refine heldI_take rfl ?_ rfl (fun w' hw' => ?_) ?_; rotate_left; (go_simp; first | done | with_reducible rfl); (try simp only [Act.put, List.setIfInBounds_toArray, List.set_cons_zero, List.set_cons_succ])))
                    refine heldI_nil ?_
                    go_wp2_with fail
                    go_roundw
                    case rel => exact ⟨j + 1, q, by omega, by omega, rfl, by go_num, HRND.out _ (fun h => by cases h) (fun _ h => h), HB.out⟩
                    case measure => simp [intOf]; omega
                  · have hze : (z == (a : Int)) = false := by rw [beq_eq_false_iff_ne]; exact hza
                    have HZA := Lib.hid hza
                    clear hza hDat hlX hq
                    go_wp2_with fail
                    refine wp_region_I [(false, 0), (false, 1), (false, 2), (false, 3), (false, 4), (false, 5), (false, 6), (false, 7), (false, 8), (false, 9), (false, 10), (false, 11), (false, 12), (false, 13), (false, 14), (false, 15), (false, 16), (false, 17), (false, 18), (false, 19)] (fun w' => Below wr.heap.size wr w') (by kernel_rfl) (by kernel_rfl) h00 ?_
                    repeat (first | (refine heldI_skip rfl rfl ?_; simp only [Act.put, List.setIfInBounds_toArray, List.set_cons_zero, List.set_cons_succ]) | (refine heldI_take rfl ?_ rfl (fun w' hw' => ?_) ?_; rotate_left; (go_simp; first | done | with_reducible rfl); (try simp only [Act.put, List.setIfInBounds_toArray, List.set_cons_zero, List.set_cons_succ])))
                    refine heldI_nil ?_
                    go_wp2_with fail
                    go_roundw
                    case rel => exact ⟨j + 1, false, by omega, by omega, rfl, by go_num, HRND.out _ (fun h => by cases h) (fun h => absurd h HZA.out), HB.out⟩
                    case measure => simp [intOf]; omega
              · obtain rfl : j = L := by omega
                have hgt : gb = true := by
                  rcases HR2.out with h | ⟨i, h1, hi, h2, h3⟩
                  · exact HG.out.1 (by rw [h, HY.out]; rfl)
                  · exact HG.out.2 i hi h1 (by rw [HLL.out]; exact hi) h2 h3
                subst hgt
                go_wp2_with fail
                go_roundw
                case rel => exact ⟨a + 1, by omega, by go_num, HST8.out.1.keep hb9, HST8.out.2.1.keep hb9⟩
                case measure => simp [intOf]; omega
          · obtain rfl : a = 16 := by omega
            go_wp2_with fail
            go_ret
            exact ⟨rfl, hat.below⟩
end Go.Proofs.Ytccjjlefpdlegaa
