/- Layer 3 (pack): what the writing functions of the code and of the reference lay. -/
import Derived.Test.YtccjjlefpdlegaaProg
import Derived.Test.YtccjjlefpdlegaaOwn
import Derived.Test.YtccjjlefpdlegaaPackPure
import Derived.Test.YtccjjlefpdlegaaEq
import Derived.KernelRfl
import Derived.Lib.Hide
import Derived.WalkLawsBesides
import Derived.WalkSpells
namespace Go.Proofs.Ytccjjlefpdlegaa
open Go.RowKit PackP
theorem info_u8 : (Try.prog.info? 5).map (fun i => (i.zero, i.size, i.bytes)) = some (some (.int .u8 0), 1, 1) := by kernel_rfl
theorem u8s_append (a b : List UInt8) : u8s (a ++ b) = u8s a ++ u8s b := List.map_append
/-- An own slice of bytes. -/
def OwnB (B : Nat) (w : World) (v : Value) (bs : List UInt8) : Prop := Own B w 5 v 1 bs.length (u8s bs)
theorem OwnB.bytes {B : Nat} {w : World} {v : Value} {bs : List UInt8} (h : OwnB B w v bs) : Bytes w.heap.size w v bs := h.row
theorem Bytes.src {P : Program} {B : Nat} {w : World} {v : Value} {bs : List UInt8} (h : Bytes B w v bs) : Src P w v 1 bs.length (u8s bs) := Row.src h
/-- append onto an own slice of bytes, for a walk. -/
theorem ap_u8 {ops : Array Oper} {rest : List Oper} {o : Oper} {a : Act} {w : World} {Q : Exit → Act → World → Prop} (hgd : o.guard = none) (s y : Operand) (xt : TypeId)
    (ho : o.op = .call { callee := .builtin .append, args := #[s, y], argTypes := #[22, xt] })
    (hxt : (∃ e', Try.prog.underlying xt = some (.slice e')) ∨ Try.prog.underlying xt = some .string)
    {B : Nat} {v x : Value} {bs ys : List UInt8} (hs : a.eval s = v) (hx : a.eval y = x)
    (hown : OwnB B w v bs) (hsrc : Src Try.prog w x 1 ys.length (u8s ys)) (hl : bs.length + ys.length ≤ 2 ^ 46) (hB : B ≤ w.heap.size)
    (h : ∀ v' w', OwnB B w' v' (bs ++ ys) → Below B w w' → wpList Try.prog ops Q rest (a.put o.dst v') w') : wpList Try.prog ops Q (o :: rest) a w := by
  obtain ⟨i0, hi, hz0, hz1, hz2⟩ := info_parts info_u8
  refine wp_append hgd s y 22 xt 5 ho i0 (.int .u8 0) 1 1 Try.underlying22 hxt hi hz0 hz1 hz2 rfl hs hx hown hsrc (oneCell_u8s _) (by unfold maxLen; omega) (by omega) hB ?_
  intro v' w' h1 h2
  refine h v' w' ?_ h2
  unfold OwnB
  rw [List.length_append, u8s_append]
  exact h1
set_option maxRecDepth 100000 in
set_option maxHeartbeats 400000 in
theorem clone_any (v : Value) (bs : List UInt8) (w : World) (B : Nat) (hr : Bytes B w v bs) (hlen : bs.length ≤ 2 ^ 46) :
    Calls Try.prog 44 #[v] w fun e w' => ∃ v', e = .returned v' ∧ OwnB w.heap.size w' v' bs ∧ Below w.heap.size w w' := by
  replace hr := hr.tight
  have hR := hr
  obtain ⟨h1, a, cap, rfl, hnc, hcap, hcells⟩ := hr
  have kn := fun (w : World) (a : Option Addr) (n c n' c' : Nat) => eql_slice_nil Try.underlying22 w a n c n' c'
  cases a with
  | none =>
    have hn : bs = [] := by
      cases bs with
      | nil => rfl
      | cons b bs => obtain ⟨b, off, h, _⟩ := hcells (by simp); cases h
    subst hn
    go_enter Try.func44, Try.ntmps44
    go_wp2
    go_ret
    exact ⟨_, rfl, Own.none _ _ _ _ _, Below.refl _ _⟩
  | some ad =>
    have hlen' : ([] : List UInt8).length + bs.length ≤ 2 ^ 46 := by simpa using hlen
    have ho : OwnB w.heap.size (w.alloc (.cells #[] 5)) (.slice (some ⟨w.heap.size, 0, none⟩) 0 0) [] := Own.none _ _ _ _ _
    have hb : Below w.heap.size w (w.alloc (.cells #[] 5)) := Below.alloc (Below.refl _ _) (Nat.le_refl _) _
    have hs := Bytes.src (P := Try.prog) (hR.below hb)
    have hB : w.heap.size ≤ (w.alloc (.cells #[] 5)).heap.size := hb.size
    clear hR h1 hcells hcap
    go_enter Try.func44, Try.ntmps44
    go_wp2_with (at_builtin; refine ap_u8 rfl (.tmp 5) (.tmp 6) 22 rfl (.inl ⟨_, Try.underlying22⟩) rfl rfl ho hs hlen' hB ?_; intro v2 w2 hown2 hb2)
    go_ret
    exact ⟨_, rfl, hown2, hb.trans hb2⟩
theorem byte_of (x j : Nat) : (x : Int) / 2 ^ (8 * j) % 256 = ((UInt8.ofNat (x / 2 ^ (8 * j))).toNat : Int) := by
  rw [UInt8.toNat_ofNat']
  have h : ((2 : Int) ^ (8 * j)) = ((2 ^ (8 * j) : Nat) : Int) := by simp
  rw [h]
  omega
/-- A slice of one byte that has just been made. -/
theorem fresh_u8 (w : World) (c : UInt8) : Bytes (w.heap.size + 1) (w.alloc (.cells #[.int .u8 (c.toNat : Int)] 5)) (.slice (some ⟨w.heap.size, 0, none⟩) 1 1) [c] :=
  Row.fresh (sz := 1) (by simp [u8s]) (Nat.le_refl _) (by decide) (fun k u hk => by simpa [u8s, u8] using hk)
theorem OwnB.alloc {B : Nat} {w : World} {v : Value} {bs : List UInt8} (h : OwnB B w v bs) (o : Obj) : OwnB B (w.alloc o) v bs :=
  Own.below h (Below.alloc (Below.refl w.heap.size w) (Nat.le_refl _) o) (Nat.le_refl _)
theorem OwnB.keep {B B' : Nat} {w w' : World} {v : Value} {bs : List UInt8} (h : OwnB B w v bs) (hb : Below B' w w') (hB : w.heap.size ≤ B') : OwnB B w' v bs := Own.below h hb hB
set_option maxRecDepth 100000 in
set_option maxHeartbeats 400000 in
theorem wide_any (B : Nat) (v : Value) (bs : List UInt8) (x k : Nat) (w : World) (hown : OwnB B w v bs) (hB : B ≤ w.heap.size) (hlen : bs.length + 8 ≤ 2 ^ 46) (hx : x < 2 ^ 64) (hk : k ≤ 8) :
    Calls Try.prog 45 #[v, .int .u64 x, .int .i64 k] w fun e w' => ∃ v', e = .returned v' ∧ OwnB B w' v' (bs ++ be k x) ∧ Below B w w' := by
  go_enter Try.func45, Try.ntmps45
  go_wp2
  go_loopw [0, 7] (fun s i wr => ∃ (r : Nat) (ys : List UInt8), r ≤ k ∧ i = .int .i64 ((r : Int) - 1) ∧ be k x = ys ++ be r x ∧ OwnB B wr s (bs ++ ys) ∧ Below B w wr) (fun _ i _ => (intOf i + 1).toNat)
  case atStart => exact ⟨k, [], Nat.le_refl _, rfl, rfl, by simpa using hown, Below.refl _ _⟩
  case round =>
    obtain ⟨r, ys, hr, rfl, he, ho, hb⟩ := hrel
    have HE := Lib.hid he
    clear he
    by_cases hr0 : r = 0
    · subst hr0
      go_wp2
      go_ret
      refine ⟨_, rfl, ?_, hb⟩
      rw [HE.out]
      simpa [be] using ho
    · obtain ⟨j, rfl⟩ : ∃ j, r = j + 1 := ⟨r - 1, by omega⟩
      have hl : (bs ++ ys).length + 1 ≤ 2 ^ 46 := by
        have h1 := congrArg List.length HE.out
        rw [List.length_append, length_be, length_be] at h1
        rw [List.length_append]; omega
      have HL := Lib.hid hl
      clear hl
      obtain ⟨C, hC⟩ : ∃ C, C = UInt8.ofNat (x / 2 ^ (8 * j)) := ⟨_, rfl⟩
      have hb8 := byte_of x j
      rw [← hC] at hb8
      have HC := Lib.hid hC
      clear hC
      have ho1 := ho.alloc (.cells #[.int .u8 (C.toNat : Int)] 5)
      have hs1 := Bytes.src (P := Try.prog) (fresh_u8 wr C)
      have hb1 := hb.alloc (Nat.le_trans hB hb.size) (.cells #[.int .u8 (C.toNat : Int)] 5)
      go_wp2_with (at_builtin; refine ap_u8 rfl (.tmp 14) (.tmp 20) 22 rfl (.inl ⟨_, Try.underlying22⟩) rfl rfl ho1 hs1 HL.out (Nat.le_trans hB hb1.size) ?_; intro v2 w2 hown2 hb2)
      all_goals
        go_roundw
        case rel => exact ⟨j, ys ++ [C], by omega, rfl, by rw [HE.out, HC.out]; simp [be], by rw [← List.append_assoc]; exact hown2, hb1.trans hb2⟩
        case measure => simp [intOf] <;> omega
theorem wide_num (B : Nat) (v : Value) (bs : List UInt8) (z z' : Int) (w : World) (hown : OwnB B w v bs) (hB : B ≤ w.heap.size) (hlen : bs.length + 8 ≤ 2 ^ 46) (hz : z' = (clamp z : Int)) :
    Calls Try.prog 45 #[v, .int .u64 z', .int .i64 8] w fun e w' => ∃ v', e = .returned v' ∧ OwnB B w' v' (bs ++ numB z) ∧ Below B w w' := by
  subst hz
  have := clamp_le z
  exact wide_any B v bs (clamp z) 8 w hown hB hlen (by omega) (by omega)
/-- A slice of numbers. -/
def Ints (B : Nat) (w : World) (v : Value) (zs : List Int) : Prop := Row B w v 1 zs.length (zs.map fun z => .int .i64 z)
theorem Ints.below {B : Nat} {w w' : World} {v : Value} {zs : List Int} (h : Ints B w v zs) (hb : Below B w w') : Ints B w' v zs := Row.below h hb
theorem Ints.tight {B : Nat} {w : World} {v : Value} {zs : List Int} (h : Ints B w v zs) : Ints w.heap.size w v zs := Row.tight h (by decide)
def numsB (zs : List Int) : List UInt8 := (zs.map numB).flatten
theorem length_numB (z : Int) : (numB z).length = 8 := length_be _ _
theorem length_numsB (zs : List Int) : (numsB zs).length = 8 * zs.length := by
  induction zs with
  | nil => rfl
  | cons z zs ih => rw [numsB, List.map_cons, List.flatten_cons, List.length_append, length_numB, List.length_cons]; unfold numsB at ih; omega
theorem numsB_succ (zs : List Int) (k : Nat) (h : k < zs.length) : numsB (zs.take (k + 1)) = numsB (zs.take k) ++ numB zs[k] := by
  unfold numsB
  rw [List.take_succ_eq_append_getElem h, List.map_append, List.flatten_append]; simp
set_option maxRecDepth 100000 in
set_option maxHeartbeats 1000000 in
theorem num_any {B B' : Nat} (v l : Value) (bs : List UInt8) (zs : List Int) (w : World) (hv : Bytes B w v bs) (hl : Ints B' w l zs) (hlen : bs.length + 8 * zs.length + 8 ≤ 2 ^ 46) :
    Calls Try.prog 15 #[v, l] w fun e w' => ∃ v', e = .returned v' ∧ OwnB w.heap.size w' v' (bs ++ numsB zs) ∧ Below w.heap.size w w' := by
  replace hl := hl.tight
  obtain ⟨_, a, cap, rfl, hnc, hcap, hcells⟩ := hl
  unfold maxLen at hcap
  have hlen0 : bs.length ≤ 2 ^ 46 := by omega
  go_enter Try.func15, Try.ntmps15
  go_wp2_with (go_at_call 44; ((with_reducible refine (clone_any _ bs _ B hv hlen0).mono ?_); rintro e w1 ⟨v1, rfl, ho1, hb1⟩))
  go_loopw [0, 11] (fun s i wr => ∃ k : Nat, k ≤ zs.length ∧ i = .int .i64 k ∧ OwnB w.heap.size wr s (bs ++ numsB (zs.take k)) ∧ Below w.heap.size w wr) (fun _ i _ => zs.length - (intOf i).toNat)
  case atStart => exact ⟨0, Nat.zero_le _, rfl, by simpa [numsB] using ho1, hb1⟩
  case round =>
    obtain ⟨k, hk, rfl, ho, hb⟩ := hrel
    clear ho1 hb1
    by_cases hlt : k < zs.length
    · obtain ⟨b, off, rfl, hBb, hc⟩ := hcells (by omega)
      have hcell := (hb.cell (p := ⟨b, off + k, none⟩) hBb).trans (hc k (.int .i64 zs[k]) (by simp [hlt]))
      have hl1 : (bs ++ numsB (zs.take k)).length + 8 ≤ 2 ^ 46 := by
        rw [List.length_append, length_numsB, List.length_take]; omega
      have HL := Lib.hid hl1
      have HN := Lib.hid (numsB_succ zs k hlt)
      clear hc hcells hl1 hlen
      obtain ⟨Z, hZ⟩ : ∃ Z, Z = zs[k] := ⟨_, rfl⟩
      rw [← hZ] at hcell HN
      clear hZ
      go_wp2_with (go_at_call 45; ((refine (wide_num _ _ _ Z _ _ ho hb.size HL.out ?hz).mono ?_); (case hz => unfold clamp; (repeat' split) <;> omega); rintro e w2 ⟨v2, rfl, ho2, hb2⟩))
      all_goals
        go_roundw
        case rel => exact ⟨k + 1, by omega, by go_num, by rw [HN.out, ← List.append_assoc]; exact ho2, hb.trans hb2⟩
        case measure => simp [intOf]; omega
    · have hke : k = zs.length := by omega
      subst hke
      rw [List.take_length] at ho
      go_wp2
      go_ret
      exact ⟨_, rfl, ho, hb⟩
/-- A slice of strings. -/
def Strs (B : Nat) (w : World) (v : Value) (ss : List ByteArray) : Prop := Row B w v 1 ss.length (ss.map fun s => .string s)
theorem Strs.below {B : Nat} {w w' : World} {v : Value} {ss : List ByteArray} (h : Strs B w v ss) (hb : Below B w w') : Strs B w' v ss := Row.below h hb
theorem Strs.tight {B : Nat} {w : World} {v : Value} {ss : List ByteArray} (h : Strs B w v ss) : Strs w.heap.size w v ss := Row.tight h (by decide)
def textsB (ss : List ByteArray) : List UInt8 := (ss.map fun s => textB s.data.toList).flatten
theorem length_textB (s : List UInt8) : (textB s).length ≤ 4100 := by
  unfold textB; rw [List.length_append, length_be]; have := cutT_len s; omega
theorem length_textsB (ss : List ByteArray) : (textsB ss).length ≤ 4100 * ss.length := by
  induction ss with
  | nil => exact Nat.zero_le _
  | cons s ss ih => rw [textsB, List.map_cons, List.flatten_cons, List.length_append, List.length_cons]; unfold textsB at ih; have := length_textB s.data.toList; omega
theorem textsB_succ (ss : List ByteArray) (k : Nat) (h : k < ss.length) : textsB (ss.take (k + 1)) = textsB (ss.take k) ++ textB ss[k].data.toList := by
  unfold textsB
  rw [List.take_succ_eq_append_getElem h, List.map_append, List.flatten_append]; simp
theorem src_str {P : Program} (w : World) (s : ByteArray) : Src P w (.string s) 1 s.data.toList.length (u8s s.data.toList) := by
  have h := src_string (P := P) (w := w) s
  have hsz : s.data.toList.length = s.size := Array.length_toList
  rw [hsz]; exact h
theorem wide_len (B : Nat) (v : Value) (bs : List UInt8) (n : Nat) (w : World) (hown : OwnB B w v bs) (hB : B ≤ w.heap.size) (hlen : bs.length + 8 ≤ 2 ^ 46) (hn : n ≤ 4096) :
    Calls Try.prog 45 #[v, .int .u64 n, .int .i64 4] w fun e w' => ∃ v', e = .returned v' ∧ OwnB B w' v' (bs ++ be 4 n) ∧ Below B w w' :=
  wide_any B v bs n 4 w hown hB hlen (by omega) (by omega)
theorem cut_small (s : ByteArray) (h : s.size ≤ 4096) : cutT s.data.toList = s.data.toList := by
  unfold cutT
  exact List.take_of_length_le (by rw [Array.length_toList]; exact h)
theorem cut_great (s : ByteArray) : (s.extract 0 4096).data.toList = cutT s.data.toList := by
  unfold cutT
  rw [ByteArray.data_extract, Array.toList_extract, List.extract_eq_take_drop]; simp
set_option maxRecDepth 100000 in
set_option maxHeartbeats 1000000 in
theorem text_any {B B' : Nat} (v l : Value) (bs : List UInt8) (ss : List ByteArray) (w : World) (hv : Bytes B w v bs) (hl : Strs B' w l ss) (hlen : bs.length + 4100 * ss.length + 4100 ≤ 2 ^ 46) (hss : ∀ s ∈ ss, s.size ≤ reachBytes) :
    Calls Try.prog 16 #[v, l] w fun e w' => ∃ v', e = .returned v' ∧ OwnB w.heap.size w' v' (bs ++ textsB ss) ∧ Below w.heap.size w w' := by
  replace hl := hl.tight
  obtain ⟨_, a, cap, rfl, hnc, hcap, hcells⟩ := hl
  unfold maxLen at hcap
  have hlen0 : bs.length ≤ 2 ^ 46 := by omega
  go_enter Try.func16, Try.ntmps16
  go_wp2_with (go_at_call 44; ((with_reducible refine (clone_any _ bs _ B hv hlen0).mono ?_); rintro e w1 ⟨v1, rfl, ho1, hb1⟩))
  go_loopw [0, 11] (fun s i wr => ∃ k : Nat, k ≤ ss.length ∧ i = .int .i64 k ∧ OwnB w.heap.size wr s (bs ++ textsB (ss.take k)) ∧ Below w.heap.size w wr) (fun _ i _ => ss.length - (intOf i).toNat)
  case atStart => exact ⟨0, Nat.zero_le _, rfl, by simpa [textsB] using ho1, hb1⟩
  case round =>
    obtain ⟨k, hk, rfl, ho, hb⟩ := hrel
    clear ho1 hb1
    by_cases hlt : k < ss.length
    · obtain ⟨b, off, rfl, hBb, hc⟩ := hcells (by omega)
      have hcell := (hb.cell (p := ⟨b, off + k, none⟩) hBb).trans (hc k (.string ss[k]) (by simp [hlt]))
      have hl1 : (bs ++ textsB (ss.take k)).length + 4100 ≤ 2 ^ 46 := by
        have := length_textsB (ss.take k)
        rw [List.length_take] at this
        rw [List.length_append]; omega
      have HL := Lib.hid hl1
      have HN := Lib.hid (textsB_succ ss k hlt)
      have hsz : ss[k].size ≤ 2 ^ 47 := by have := hss ss[k] (List.getElem_mem hlt); unfold reachBytes at this; omega
      clear hc hcells hl1 hlen hss
      obtain ⟨Z, hZ⟩ : ∃ Z, Z = ss[k] := ⟨_, rfl⟩
      rw [← hZ] at hcell HN hsz
      clear hZ
      have hl8 : (bs ++ textsB (ss.take k)).length + 8 ≤ 2 ^ 46 := by have := HL.out; omega
      have HL8 := Lib.hid hl8
      clear hl8
      by_cases hs : Z.size ≤ 4096
      · have hcut := Lib.hid (cut_small Z hs)
        have hls : ((bs ++ textsB (ss.take k)) ++ be 4 Z.size).length + Z.data.toList.length ≤ 2 ^ 46 := by
          have := HL.out
          have hz : Z.data.toList.length = Z.size := Array.length_toList
          rw [List.length_append, length_be, hz]; omega
        have HLS := Lib.hid hls
        clear hls
        go_wp2_with (first
          | (go_at_call 45; ((with_reducible refine (wide_len _ _ _ _ _ ho hb.size HL8.out hs).mono ?_); rintro e w2 ⟨v2, rfl, ho2, hb2⟩; have hB2 := Nat.le_trans hb.size hb2.size))
          | (at_builtin; refine ap_u8 rfl (.tmp 24) (.tmp 25) 9 rfl (.inr Try.underlying9) rfl rfl ho2 (src_str _ Z) HLS.out hB2 ?_; intro v3 w3 ho3 hb3))
        go_roundw
        case rel => exact ⟨k + 1, by omega, by go_num, by rw [HN.out, textB, hcut.out, Array.length_toList, ← List.append_assoc, ← List.append_assoc]; exact ho3, (hb.trans hb2).trans hb3⟩
        case measure => simp [intOf]; omega
      · obtain ⟨T, hT⟩ : ∃ T, Z.extract 0 4096 = T := ⟨_, rfl⟩
        have hcut := cut_great Z
        rw [hT] at hcut
        have hTs : T.size ≤ 4096 := by
          have h1 := cutT_len Z.data.toList
          rw [← hcut, Array.length_toList] at h1
          exact h1
        have hls : ((bs ++ textsB (ss.take k)) ++ be 4 T.size).length + T.data.toList.length ≤ 2 ^ 46 := by
          have := HL.out
          have hz : T.data.toList.length = T.size := Array.length_toList
          rw [List.length_append, length_be, hz]; omega
        have HLS := Lib.hid hls
        have HC := Lib.hid hcut
        clear hls hcut
        go_wp2_with (first
          | (go_at_call 45; ((with_reducible refine (wide_len _ _ _ _ _ ho hb.size HL8.out hTs).mono ?_); rintro e w2 ⟨v2, rfl, ho2, hb2⟩; have hB2 := Nat.le_trans hb.size hb2.size))
          | (at_builtin; refine ap_u8 rfl (.tmp 24) (.tmp 25) 9 rfl (.inr Try.underlying9) rfl rfl ho2 (src_str _ T) HLS.out hB2 ?_; intro v3 w3 ho3 hb3))
        go_roundw
        case rel => exact ⟨k + 1, by omega, by go_num, by rw [HN.out, textB, ← HC.out, Array.length_toList, ← List.append_assoc, ← List.append_assoc]; exact ho3, (hb.trans hb2).trans hb3⟩
        case measure => simp [intOf]; omega
    · have hke : k = ss.length := by omega
      subst hke
      rw [List.take_length] at ho
      go_wp2
      go_ret
      exact ⟨_, rfl, ho, hb⟩
end Go.Proofs.Ytccjjlefpdlegaa
