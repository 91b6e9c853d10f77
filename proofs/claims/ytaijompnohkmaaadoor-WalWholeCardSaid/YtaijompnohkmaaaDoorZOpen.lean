/- What an argument that can be read gives the walk: slices, strings, structs and arrays, one law each, put together by type. -/
import Derived.Test.YtaijompnohkmaaaDoorMR
import Derived.ChangeArms
import Derived.OpenShut
import Derived.DataReads
namespace Go.Proofs.YtaijompnohkmaaaDoor
open Go.RowKit Go.ChangeShapes Go.WideShapes
/-- Cells of type t that can be read are cells of something of α. -/
def Opens {α : Type} (P : Program) (W : World) (t : TypeId) (R : α → List Value → Prop) : Prop :=
  ∀ (H : Type) (enc : TypeId × Value → H) (fuel : Nat) (cs : List Value) (x : DataW H × List MemPlace), DataW.trod enc P W 0 (fun _ => true) true fuel t cs = some x →
    (∀ n ∈ DataW.weights P t x.1, n ≤ reachBytes) → ∃ a, R a cs
section
variable {P : Program} {W : World} {t : TypeId}
theorem opens_bool (ht : P.underlying t = some .bool) : Opens P W t (fun (b : Bool) cs => cs = [.bool b]) := fun _ _ _ _ _ h _ =>
  let ⟨b, h1, _⟩ := DataW.trod_bool ht h; ⟨b, h1⟩
theorem opens_int {k : IntKind} (ht : P.underlying t = some (.int k)) : Opens P W t (fun (z : Int) cs => cs = [.int k z] ∧ (Lit.int k z).wf = true) := fun _ _ _ _ _ h _ =>
  let ⟨z, h1, _, h2⟩ := DataW.trod_int ht h; ⟨z, h1, h2⟩
theorem opens_string (ht : P.underlying t = some .string) : Opens P W t (fun (s : ByteArray) cs => cs = [.string s] ∧ s.size ≤ reachBytes) := fun _ _ _ _ x h hw => by
  obtain ⟨s, h1, rfl, h2⟩ := DataW.trod_string ht h
  exact ⟨s, h1, by simpa [DataW.weights] using hw⟩
theorem wf_i64 {z : Int} (h : (Lit.int .i64 z).wf = true) : -9223372036854775808 ≤ z ∧ z ≤ 9223372036854775807 := by
  have h' := h
  simp [Lit.wf, IntKind.min, IntKind.max, IntKind.signed, IntKind.bits] at h'
  omega
theorem wf_u8 {z : Int} (h : (Lit.int .u8 z).wf = true) : 0 ≤ z ∧ z < 256 := by
  have h' := h
  simp [Lit.wf, IntKind.min, IntKind.max, IntKind.signed, IntKind.bits] at h'
  omega
theorem wf_u16 {z : Int} (h : (Lit.int .u16 z).wf = true) : 0 ≤ z ∧ z < 65536 := by
  have h' := h
  simp [Lit.wf, IntKind.min, IntKind.max, IntKind.signed, IntKind.bits] at h'
  omega
theorem wf_u32 {z : Int} (h : (Lit.int .u32 z).wf = true) : 0 ≤ z ∧ z < 4294967296 := by
  have h' := h
  simp [Lit.wf, IntKind.min, IntKind.max, IntKind.signed, IntKind.bits] at h'
  omega
theorem wf_u64 {z : Int} (h : (Lit.int .u64 z).wf = true) : 0 ≤ z ∧ z < 18446744073709551616 := by
  have h' := h
  simp [Lit.wf, IntKind.min, IntKind.max, IntKind.signed, IntKind.bits] at h'
  omega
theorem opens_u8 (ht : P.underlying t = some (.int .u8)) : Opens P W t (fun (b : UInt8) cs => cs = [u8 b]) := fun H enc fuel cs x h hx => by
  obtain ⟨z, rfl, hw⟩ := opens_int ht H enc fuel cs x h hx
  have hz := wf_u8 hw
  refine ⟨UInt8.ofNat z.toNat, ?_⟩
  unfold u8
  congr 2
  rw [UInt8.toNat_ofNat']
  omega
theorem add_plain' (b off k : Nat) : (⟨b, off, none⟩ : Addr).add k = ⟨b, off + k, none⟩ := by
  unfold Addr.add; split <;> simp_all
theorem flatten_get {css : List (List Value)} {sz : Nat} (hsz : ∀ c ∈ css, c.length = sz) : ∀ (i j : Nat) (c : List Value), css[i]? = some c → j < sz → css.flatten[i * sz + j]? = c[j]? := by
  induction css with
  | nil => intro i j c h; simp at h
  | cons c0 css ih =>
    intro i j c h hj
    have h0 : c0.length = sz := hsz c0 (List.mem_cons_self ..)
    cases i with
    | zero =>
      simp only [List.getElem?_cons_zero, Option.some.injEq] at h
      subst h
      rw [List.flatten_cons, Nat.zero_mul, Nat.zero_add, List.getElem?_append_left (by omega)]
    | succ i =>
      simp only [List.getElem?_cons_succ] at h
      rw [List.flatten_cons, List.getElem?_append_right (by rw [h0, Nat.succ_mul]; omega), h0]
      have e : (i + 1) * sz + j - sz = i * sz + j := by rw [Nat.succ_mul]; omega
      rw [e]
      exact ih (fun c hc => hsz c (List.mem_cons_of_mem _ hc)) i j c h hj
theorem flatten_len {css : List (List Value)} {sz : Nat} (hsz : ∀ c ∈ css, c.length = sz) : css.flatten.length = css.length * sz := by
  induction css with
  | nil => simp
  | cons c css ih =>
    rw [List.flatten_cons, List.length_append, ih (fun c hc => hsz c (List.mem_cons_of_mem _ hc)), hsz c (List.mem_cons_self ..), List.length_cons, Nat.succ_mul]; omega
/-- A slice of things of α: its row of cells, cut into the things' own. -/
def SliceR {α : Type} (B : Nat) (W : World) (sz by_ : Nat) (R : α → List Value → Prop) (xs : List α) (cs : List Value) : Prop :=
  xs.length * by_ ≤ reachBytes ∧ ∃ (v : Value) (css : List (List Value)), cs = [v] ∧ css.length = xs.length ∧ (∀ c ∈ css, c.length = sz) ∧ Row B W v sz xs.length css.flatten ∧ ∀ (i : Nat) (a : α) (c : List Value), xs[i]? = some a → css[i]? = some c → R a c
theorem choose_list {β γ : Type} (n : Nat) (q : Nat → β → γ → Prop) (h : ∀ i, i < n → ∃ b c, q i b c) : ∃ (bs : List β) (cs : List γ), bs.length = n ∧ cs.length = n ∧ ∀ (i : Nat) b c, bs[i]? = some b → cs[i]? = some c → q i b c := by
  induction n with
  | zero => exact ⟨[], [], rfl, rfl, fun i b c hb => by simp at hb⟩
  | succ n ih =>
    obtain ⟨bs, cs, h1, h2, h3⟩ := ih (fun i hi => h i (by omega))
    obtain ⟨b, c, hq⟩ := h n (by omega)
    refine ⟨bs ++ [b], cs ++ [c], by simp [h1], by simp [h2], fun i b' c' hb hc => ?_⟩
    by_cases hi : i < n
    · rw [List.getElem?_append_left (by omega)] at hb hc
      exact h3 i b' c' hb hc
    · have hin : i = n := by
        have : i < (bs ++ [b]).length := (List.getElem?_eq_some_iff.1 hb).1
        simp [h1] at this; omega
      subst hin
      rw [List.getElem?_append_right (by omega), h1] at hb
      rw [List.getElem?_append_right (by omega), h2] at hc
      simp at hb hc
      subst hb; subst hc
      exact hq
theorem mem_weightsAll {H : Type} {e : TypeId} : ∀ (ds : List (DataW H)) (i : Nat) (d : DataW H), ds[i]? = some d → ∀ n ∈ DataW.weights P e d, n ∈ DataW.weightsAll P e ds
  | [], i, d, h, _, _ => by simp at h
  | d0 :: ds, 0, d, h, n, hn => by
    simp only [List.getElem?_cons_zero, Option.some.injEq] at h
    subst h
    rw [DataW.weightsAll]
    exact List.mem_append_left _ hn
  | d0 :: ds, i + 1, d, h, n, hn => by
    rw [DataW.weightsAll]
    exact List.mem_append_right _ (mem_weightsAll ds i d (by simpa using h) n hn)
theorem mem_weightsEach {H : Type} : ∀ (ts : List TypeId) (ds : List (DataW H)) (i : Nat) (t : TypeId) (d : DataW H), ts[i]? = some t → ds[i]? = some d → ∀ n ∈ DataW.weights P t d, n ∈ DataW.weightsEach P ts ds
  | [], _, _, _, _, h, _, _, _ => by simp at h
  | _ :: _, [], _, _, _, _, h, _, _ => by simp at h
  | t0 :: ts, d0 :: ds, 0, t, d, ht, hd, n, hn => by
    simp only [List.getElem?_cons_zero, Option.some.injEq] at ht hd
    subst ht; subst hd
    rw [DataW.weightsEach]
    exact List.mem_append_left _ hn
  | t0 :: ts, d0 :: ds, i + 1, t, d, ht, hd, n, hn => by
    rw [DataW.weightsEach]
    exact List.mem_append_right _ (mem_weightsEach ts ds i t d (by simpa using ht) (by simpa using hd) n hn)
theorem opens_slice {α : Type} {e : TypeId} {R : α → List Value → Prop} (ht : P.underlying t = some (.slice e)) (hsz : 0 < P.cellsOf e) (he : Opens P W e R) :
    Opens P W t (SliceR W.heap.size W (P.cellsOf e) (P.bytesOf e) R) := fun H enc fuel cs x h hwt => by
  rcases DataW.trod_slice ht h with ⟨rfl, _⟩ | ⟨a, len, cap, elems, rest, n, _, rfl, rfl, _, hl, hm, hlen, hel, _, _⟩
  · exact ⟨[], by simp, .slice none 0 0, [], rfl, rfl, by simp, Row.nil _ _ _, fun i a c h => by simp at h⟩
  · have hw1 : DataW.weights P t (DataW.slice (elems.map (·.1)) (rest.map (·.1))) = (elems.length + rest.length) * P.bytesOf e :: (DataW.weightsAll P e (elems.map (·.1)) ++ DataW.weightsAll P e (rest.map (·.1))) := by
      rw [DataW.weights]; simp [ht]
    simp only [hw1] at hwt
    have each : ∀ i, i < len → ∃ (b : α) (c : List Value), W.cells? 0 (a.add (i * P.cellsOf e)) (P.cellsOf e) = some c ∧ R b c := fun i hi => by
      have h1 := hel i hi
      rw [List.getElem?_eq_getElem (by omega)] at h1
      obtain ⟨c, h2, h3⟩ := Option.bind_eq_some_iff.1 h1
      obtain ⟨b, hb⟩ := he H enc n c _ h3 (fun m hm => hwt m (List.mem_cons_of_mem _ (List.mem_append_left _ (mem_weightsAll _ i _ (by rw [List.getElem?_map, List.getElem?_eq_getElem (by omega)]; rfl) m hm))))
      exact ⟨b, c, h2, hb⟩
    obtain ⟨xs, css, h1, h2, h3⟩ := choose_list len _ each
    have hcl : ∀ c ∈ css, c.length = P.cellsOf e := fun c hc => by
      obtain ⟨i, hi, rfl⟩ := List.getElem_of_mem hc
      have := h3 i _ _ (List.getElem?_eq_getElem (by omega)) (List.getElem?_eq_getElem hi)
      exact (World.cells?_some this.1).2.1
    refine ⟨xs, ?_, _, css, rfl, by omega, hcl, ⟨by rw [flatten_len hcl, h2, h1], some a, cap, by rw [h1], by omega, hm, fun hn => ?_⟩, fun i b c hb hc => (h3 i b c hb hc).2⟩
    · have := hwt _ (List.mem_cons_self ..)
      exact Nat.le_trans (Nat.mul_le_mul_right _ (by omega)) this
    rw [h1] at hn
    have key : ∀ i j, i < len → j < P.cellsOf e → W.cell? ((a.add (i * P.cellsOf e)).add j) = css.flatten[i * P.cellsOf e + j]? := fun i j hi hj => by
      have := h3 i _ _ (List.getElem?_eq_getElem (by omega)) (List.getElem?_eq_getElem (show i < css.length by omega))
      rw [(World.cells?_some this.1).2.2 j hj, flatten_get hcl i j _ (List.getElem?_eq_getElem (by omega)) hj]
    have h00 := key 0 0 hn hsz
    have hfl : css.flatten.length = len * P.cellsOf e := by rw [flatten_len hcl, h2]
    have hpos : 0 < len * P.cellsOf e := Nat.mul_pos hn hsz
    have e0 : (a.add (0 * P.cellsOf e)).add 0 = a := by simp [Addr.add]
    rw [e0, Nat.zero_mul, Nat.zero_add, List.getElem?_eq_getElem (by omega)] at h00
    obtain ⟨b, off, spot⟩ := a
    have hs : spot = none := by
      unfold World.cell? at h00
      split at h00
      · cases spot with
        | none => rfl
        | some s => simp at h00
      · cases h00
    subst hs
    refine ⟨b, off, rfl, World.block_lt_of_cell? W _ h00, fun k u hk => ?_⟩
    have hk' : k < len * P.cellsOf e := by rw [← hfl]; exact (List.getElem?_eq_some_iff.1 hk).1
    have hdiv : k / P.cellsOf e < len := (Nat.div_lt_iff_lt_mul hsz).2 hk'
    have hmod := Nat.mod_lt k hsz
    have hke : k / P.cellsOf e * P.cellsOf e + k % P.cellsOf e = k := by rw [Nat.mul_comm]; exact Nat.div_add_mod k _
    have := key (k / P.cellsOf e) (k % P.cellsOf e) hdiv hmod
    rw [add_plain', add_plain', Nat.add_assoc, hke] at this
    rw [this, hk]
/-- A slice argument's value. -/
theorem open_slice_val {α : Type} {e : TypeId} {R : List α → List Value → Prop} {H : Type} {enc : TypeId × Value → H} {base : Nat} {v : Value} {d : DataW H} {ps : List MemPlace} (ht : P.underlying t = some (.slice e))
    (ho : Opens P W t R) (hval : Value.okWide P W .any base t v) (h : DataW.Trod enc P W 0 (fun _ => true) true t v d ps) (hw : ∀ n ∈ DataW.weights P t d, n ≤ reachBytes) : ∃ xs, R xs [v] := by
  obtain ⟨a, len, cap, rfl⟩ := okWide_slice ht hval
  obtain ⟨fuel, hf⟩ := h
  exact ho H enc fuel _ _ hf hw
theorem flatten_u8 : ∀ (css : List (List Value)) (bs : List UInt8), css.length = bs.length → (∀ (i : Nat) (a : UInt8) (c : List Value), bs[i]? = some a → css[i]? = some c → c = [u8 a]) → css.flatten = u8s bs := by
  intro css
  induction css with
  | nil => intro bs h _; cases bs <;> simp_all [u8s]
  | cons c css ih =>
    intro bs h h2
    cases bs with
    | nil => simp at h
    | cons b bs =>
      rw [List.flatten_cons, h2 0 b c rfl rfl, ih bs (by simpa using h) (fun i a c ha hc => h2 (i + 1) a c (by simpa using ha) (by simpa using hc))]
      rfl
theorem sliceR_bytes {B : Nat} {bs : List UInt8} {cs : List Value} (h : SliceR B W 1 1 (fun (b : UInt8) cs => cs = [u8 b]) bs cs) : bs.length ≤ reachBytes ∧ ∃ v, cs = [v] ∧ Bytes B W v bs := by
  obtain ⟨h0, v, css, rfl, h1, _, h2, h3⟩ := h
  refine ⟨by omega, v, rfl, ?_⟩
  rw [flatten_u8 css bs h1 h3] at h2
  exact h2
/-- What a slice of bytes that came in is. -/
def BytesR (W : World) (bs : List UInt8) (cs : List Value) : Prop := bs.length ≤ reachBytes ∧ ∃ v, cs = [v] ∧ Bytes W.heap.size W v bs
theorem opens_bytes {e : TypeId} (ht : P.underlying t = some (.slice e)) (he : P.underlying e = some (.int .u8)) (hc : P.cellsOf e = 1) (hb : P.bytesOf e = 1) : Opens P W t (BytesR W) :=
  fun H enc fuel cs x h hw => by
    obtain ⟨bs, hb'⟩ := opens_slice ht (by omega) (opens_u8 he) H enc fuel cs x h hw
    rw [hc, hb] at hb'
    exact ⟨bs, sliceR_bytes hb'⟩
/-- What a slice of slices of bytes that came in is. -/
def PiecesR (W : World) (ls : List (List UInt8)) (cs : List Value) : Prop := ls.length * 24 ≤ reachBytes ∧ (∀ l ∈ ls, l.length ≤ reachBytes) ∧ ∃ v, cs = [v] ∧ Pieces W.heap.size W v ls
theorem sliceR_pieces {ls : List (List UInt8)} {cs : List Value} (h : SliceR W.heap.size W 1 24 (BytesR W) ls cs) : PiecesR W ls cs := by
  obtain ⟨h0, v, css, rfl, h1, h2, h3, h4⟩ := h
  refine ⟨h0, fun l hl => ?_, v, rfl, css.flatten, h3, fun k hk => ?_⟩
  · obtain ⟨k, hk, rfl⟩ := List.getElem_of_mem hl
    exact (h4 k _ _ (List.getElem?_eq_getElem hk) (List.getElem?_eq_getElem (by omega))).1
  · obtain ⟨_, u, h5, h6⟩ := h4 k _ _ (List.getElem?_eq_getElem hk) (List.getElem?_eq_getElem (by omega))
    refine ⟨u, ?_, h6⟩
    have := flatten_get h2 k 0 _ (List.getElem?_eq_getElem (by omega)) (by omega)
    rw [Nat.mul_one, Nat.add_zero] at this
    rw [this, h5]
    rfl
theorem opens_pieces {e e2 : TypeId} (ht : P.underlying t = some (.slice e)) (hc : P.cellsOf e = 1) (hb : P.bytesOf e = 24) (he : P.underlying e = some (.slice e2)) (he2 : P.underlying e2 = some (.int .u8)) (hc2 : P.cellsOf e2 = 1) (hb2 : P.bytesOf e2 = 1) :
    Opens P W t (PiecesR W) :=
  fun H enc fuel cs x h hw => by
    obtain ⟨bs, hb'⟩ := opens_slice ht (by omega) (opens_bytes he he2 hc2 hb2) H enc fuel cs x h hw
    rw [hc, hb] at hb'
    exact ⟨bs, sliceR_pieces hb'⟩
end
end Go.Proofs.YtaijompnohkmaaaDoor
