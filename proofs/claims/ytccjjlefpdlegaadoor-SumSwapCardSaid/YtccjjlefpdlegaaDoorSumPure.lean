/- The sum of layer 2, as plain functions over 32-bit words: the table's way and the reference's way are one. -/
import Derived.WalkKit
namespace Go.Proofs.YtccjjlefpdlegaaDoor
namespace SumP
/-- A word as the number that Go's uint32 holds. A plain definition: the walk does not look into it. -/
def toI (x : BitVec 32) : Int := x.toNat
theorem toI_lo (x : BitVec 32) : 0 ≤ toI x := by unfold toI; omega
theorem toI_hi (x : BitVec 32) : toI x < 4294967296 := by have := x.isLt; unfold toI; omega
theorem toI_inj {x y : BitVec 32} (h : toI x = toI y) : x = y := BitVec.eq_of_toNat_eq (by unfold toI at h; omega)
theorem ofInt_toI (a : BitVec 32) : BitVec.ofInt 32 (toI a) = a := by
  apply BitVec.eq_of_toNat_eq
  simp [toI]
theorem wrap_toI (a : BitVec 32) : IntKind.u32.wrap (a.toNat : Int) = toI a := by
  have h := a.isLt
  simp only [IntKind.wrap, IntKind.bits, IntKind.signed, toI]
  simp
  omega
theorem bits_xor (a b : BitVec 32) : bits .xor .u32 (toI a) (toI b) = toI (a ^^^ b) := by
  simp only [bits, IntKind.bits, ofInt_toI]
  exact wrap_toI _
theorem bits_and (a b : BitVec 32) : bits .and .u32 (toI a) (toI b) = toI (a &&& b) := by
  simp only [bits, IntKind.bits, ofInt_toI]
  exact wrap_toI _
theorem not_eq (a : BitVec 32) : bits .xor .u32 IntKind.u32.max (toI a) = toI (~~~ a) := by
  have h : IntKind.u32.max = toI (BitVec.allOnes 32) := by decide
  rw [h, bits_xor, BitVec.allOnes_xor]
theorem shr4 (a : BitVec 32) : toI a / (16 : Int) = toI (a >>> 4) := by
  unfold toI; rw [BitVec.toNat_ushiftRight, Nat.shiftRight_eq_div_pow]; omega
theorem shr1 (a : BitVec 32) : toI a / (2 : Int) = toI (a >>> 1) := by
  unfold toI; rw [BitVec.toNat_ushiftRight, Nat.shiftRight_eq_div_pow]; omega

/-- What half a byte does. -/
def tabL : List (BitVec 32) := [0x00000000#32, 0x1db71064#32, 0x3b6e20c8#32, 0x26d930ac#32, 0x76dc4190#32, 0x6b6b51f4#32, 0x4db26158#32, 0x5005713c#32,
  0xedb88320#32, 0xf00f9344#32, 0xd6d6a3e8#32, 0xcb61b38c#32, 0x9b64c2b0#32, 0x86d3d2d4#32, 0xa00ae278#32, 0xbdbdf21c#32]
def tab (x : BitVec 32) : BitVec 32 := tabL.getD x.toNat 0#32
def half (s : BitVec 32) : BitVec 32 := (s >>> 4) ^^^ tab (s &&& 15#32)
def byte (b : UInt8) : BitVec 32 := b.toBitVec.setWidth 32
theorem byte_toNat (b : UInt8) : (byte b).toNat = b.toNat := by
  have h := b.toNat_lt
  simp [byte]
def step1 (s : BitVec 32) (b : UInt8) : BitVec 32 := half (half (s ^^^ byte b))
def more (s : BitVec 32) (bs : List UInt8) : BitVec 32 := ~~~ (bs.foldl step1 (~~~ s))
def sum (bs : List UInt8) : BitVec 32 := more 0#32 bs

/-- One bit of the reference's way. -/
def bit (s : BitVec 32) : BitVec 32 := (s >>> 1) ^^^ (if s.getLsbD 0 = true then 0xedb88320#32 else 0#32)
def bitN : Nat → BitVec 32 → BitVec 32
  | 0, s => s
  | n + 1, s => bitN n (bit s)

theorem bit_xor (a b : BitVec 32) : bit (a ^^^ b) = bit a ^^^ bit b := by
  unfold bit
  rw [BitVec.ushiftRight_xor_distrib, BitVec.getLsbD_xor]
  generalize a >>> 1 = x
  generalize b >>> 1 = y
  generalize (0xedb88320#32) = p
  have e1 : x ^^^ y ^^^ p = x ^^^ (y ^^^ p) := BitVec.xor_assoc _ _ _
  have e2 : x ^^^ y ^^^ p = x ^^^ p ^^^ y := by rw [BitVec.xor_assoc, BitVec.xor_comm y p, ← BitVec.xor_assoc]
  have e3 : x ^^^ y = x ^^^ p ^^^ (y ^^^ p) := by
    rw [BitVec.xor_comm y p, ← BitVec.xor_assoc, BitVec.xor_assoc x p p, BitVec.xor_self, BitVec.xor_zero]
  cases a.getLsbD 0 <;> cases b.getLsbD 0
  · simp
  · simpa using e1
  · simpa using e2
  · simpa using e3
theorem bitN_xor (n : Nat) : ∀ a b : BitVec 32, bitN n (a ^^^ b) = bitN n a ^^^ bitN n b := by
  induction n with
  | zero => intro a b; rfl
  | succ n ih => intro a b; simp only [bitN, bit_xor, ih]
theorem bit_even (a : BitVec 32) (h : a.getLsbD 0 = false) : bit a = a >>> 1 := by
  unfold bit; rw [h]; simp
theorem high4 (a : BitVec 32) (h : ∀ i, i < 4 → a.getLsbD i = false) : bitN 4 a = a >>> 4 := by
  have e : ∀ i, i < 4 → (a >>> i).getLsbD 0 = false := fun i hi => by
    rw [BitVec.getLsbD_ushiftRight]; simpa using h i hi
  have e0 : bit a = a >>> 1 := bit_even a (by simpa using e 0 (by omega))
  have e1 : bit (a >>> 1) = a >>> 2 := by rw [bit_even _ (e 1 (by omega)), ← BitVec.shiftRight_add]
  have e2 : bit (a >>> 2) = a >>> 3 := by rw [bit_even _ (e 2 (by omega)), ← BitVec.shiftRight_add]
  have e3 : bit (a >>> 3) = a >>> 4 := by rw [bit_even _ (e 3 (by omega)), ← BitVec.shiftRight_add]
  simp only [bitN, e0, e1, e2, e3]
theorem low4 : ∀ k : Fin 16, bitN 4 (BitVec.ofNat 32 k.val) = tab (BitVec.ofNat 32 k.val) := by decide
theorem split (s : BitVec 32) : s = (s &&& ~~~ 15#32) ^^^ (s &&& 15#32) := by
  apply BitVec.eq_of_getLsbD_eq
  intro i hi
  simp only [BitVec.getLsbD_xor, BitVec.getLsbD_and, BitVec.getLsbD_not, hi, decide_true, Bool.true_and]
  cases s.getLsbD i <;> cases (15#32).getLsbD i <;> rfl
theorem and15_lt (s : BitVec 32) : (s &&& 15#32).toNat < 16 := by
  rw [BitVec.toNat_and]
  exact Nat.lt_of_le_of_lt Nat.and_le_right (by decide)
theorem half_eq (s : BitVec 32) : half s = bitN 4 s := by
  have hl : (s &&& 15#32) = BitVec.ofNat 32 (s &&& 15#32).toNat := by simp
  have h1 : bitN 4 (s &&& 15#32) = tab (s &&& 15#32) := by
    rw [hl]; exact low4 ⟨_, and15_lt s⟩
  have h2 : bitN 4 (s &&& ~~~ 15#32) = (s &&& ~~~ 15#32) >>> 4 := by
    apply high4
    intro i hi
    have hb : (15#32).getLsbD i = true := by
      have : i = 0 ∨ i = 1 ∨ i = 2 ∨ i = 3 := by omega
      rcases this with rfl | rfl | rfl | rfl <;> decide
    rw [BitVec.getLsbD_and, BitVec.getLsbD_not, hb]; simp
  have h3 : (s &&& ~~~ 15#32) >>> 4 = s >>> 4 := by
    apply BitVec.eq_of_getLsbD_eq
    intro i hi
    rw [BitVec.getLsbD_ushiftRight, BitVec.getLsbD_ushiftRight, BitVec.getLsbD_and, BitVec.getLsbD_not]
    by_cases h : 4 + i < 32
    · have hb : (15#32).getLsbD (4 + i) = false := by
        have : ∀ j : Fin 28, (15#32).getLsbD (4 + j.val) = false := by decide
        exact this ⟨i, by omega⟩
      rw [hb]; simp [h]
    · rw [BitVec.getLsbD_of_ge s _ (by omega)]; simp
  conv => rhs; rw [split s]
  rw [bitN_xor, h1, h2, h3]; rfl
theorem bitN_add (m n : Nat) : ∀ s, bitN n (bitN m s) = bitN (m + n) s := by
  induction m with
  | zero => intro s; simp [bitN]
  | succ m ih => intro s; rw [Nat.add_right_comm]; simp only [bitN]; exact ih _
theorem step1_eq (s : BitVec 32) (b : UInt8) : step1 s b = bitN 8 (s ^^^ byte b) := by
  unfold step1; rw [half_eq, half_eq, bitN_add]

/-- A bit's step loses nothing. -/
theorem bit_inj0 (a : BitVec 32) (h : bit a = 0#32) : a = 0#32 := by
  unfold bit at h
  cases h0 : a.getLsbD 0 with
  | true =>
    exfalso
    rw [h0] at h
    have h31 := congrArg (fun x => BitVec.getLsbD x 31) h
    simp only [BitVec.getLsbD_xor, BitVec.getLsbD_ushiftRight, if_true] at h31
    rw [BitVec.getLsbD_of_ge a (1 + 31) (by omega)] at h31
    revert h31; decide
  | false =>
    rw [h0] at h
    simp only [Bool.false_eq_true, if_false, BitVec.xor_zero] at h
    apply BitVec.eq_of_getLsbD_eq
    intro i hi
    cases i with
    | zero => rw [h0]; simp
    | succ i =>
      have := congrArg (fun x => BitVec.getLsbD x i) h
      simp only [BitVec.getLsbD_ushiftRight] at this
      rw [Nat.add_comm] at this
      rw [this]; simp
theorem xor_eq_zero {a b : BitVec 32} (h : a ^^^ b = 0#32) : a = b := by
  have h2 := congrArg (· ^^^ b) h
  simpa [BitVec.xor_assoc] using h2
theorem bitN_inj0 (n : Nat) : ∀ a : BitVec 32, bitN n a = 0#32 → a = 0#32 := by
  induction n with
  | zero => intro a h; exact h
  | succ n ih => intro a h; exact bit_inj0 a (ih _ h)
theorem bitN_inj (n : Nat) {a b : BitVec 32} (h : bitN n a = bitN n b) : a = b := by
  apply xor_eq_zero
  apply bitN_inj0 n
  rw [bitN_xor, h]; simp
theorem xor_right_inj {a b c : BitVec 32} (h : a ^^^ c = b ^^^ c) : a = b := by
  have h2 := congrArg (· ^^^ c) h
  simpa [BitVec.xor_assoc] using h2
theorem step1_inj {a b : BitVec 32} {c : UInt8} (h : step1 a c = step1 b c) : a = b := by
  rw [step1_eq, step1_eq] at h
  exact xor_right_inj (bitN_inj 8 h)
theorem fold_inj (bs : List UInt8) : ∀ a b : BitVec 32, bs.foldl step1 a = bs.foldl step1 b → a = b := by
  induction bs with
  | nil => intro a b h; exact h
  | cons c bs ih => intro a b h; exact step1_inj (ih _ _ h)
theorem byte_inj {x y : UInt8} (h : byte x = byte y) : x = y := by
  have := congrArg BitVec.toNat h
  rw [byte_toNat, byte_toNat] at this
  exact UInt8.toNat_inj.1 this
theorem not_inj {a b : BitVec 32} (h : ~~~ a = ~~~ b) : a = b := by
  have := congrArg (~~~ ·) h
  simpa using this
/-- One byte that is another one changes the sum. -/
theorem sum_other (l r : List UInt8) (x y : UInt8) : sum (l ++ x :: r) = sum (l ++ y :: r) ↔ x = y := by
  constructor
  · intro h
    unfold sum more at h
    have h := not_inj h
    simp only [List.foldl_append, List.foldl_cons] at h
    have h := fold_inj r _ _ h
    rw [step1_eq, step1_eq] at h
    have h := bitN_inj 8 h
    apply byte_inj
    have h2 := congrArg (fun z => List.foldl step1 (~~~ 0#32) l ^^^ z) h
    simpa [← BitVec.xor_assoc] using h2
  · rintro rfl; rfl
theorem fixed8 : ∀ k : Fin 256, bitN 8 (BitVec.ofNat 32 k.val) = BitVec.ofNat 32 k.val → k.val = 0 := by decide +kernel
theorem byte_xor (x y : UInt8) : byte x ^^^ byte y = byte (x ^^^ y) := by
  unfold byte
  rw [UInt8.toBitVec_xor]
  apply BitVec.eq_of_getLsbD_eq
  intro i hi
  simp only [BitVec.getLsbD_xor, BitVec.getLsbD_setWidth, hi, decide_true, Bool.true_and]
/-- Two unlike bytes beside one another that change places change the sum. -/
theorem sum_swap (l r : List UInt8) (x y : UInt8) : sum (l ++ x :: y :: r) = sum (l ++ y :: x :: r) ↔ x = y := by
  constructor
  · intro h
    unfold sum more at h
    have h := not_inj h
    simp only [List.foldl_append, List.foldl_cons] at h
    have h := fold_inj r _ _ h
    simp only [step1_eq] at h
    have h := bitN_inj 8 h
    rw [bitN_xor, bitN_xor 8 _ (byte y)] at h
    generalize bitN 8 (List.foldl step1 (~~~ 0#32) l) = s at h
    have h2 : bitN 8 (byte x ^^^ byte y) = byte x ^^^ byte y := by
      rw [bitN_xor]
      have h3 := congrArg (fun z => s ^^^ (z ^^^ (bitN 8 (byte y) ^^^ byte y))) h
      have e1 : s ^^^ (s ^^^ bitN 8 (byte x) ^^^ byte y ^^^ (bitN 8 (byte y) ^^^ byte y)) = bitN 8 (byte x) ^^^ bitN 8 (byte y) := by
        apply BitVec.eq_of_getLsbD_eq; intro i hi
        simp only [BitVec.getLsbD_xor]
        cases s.getLsbD i <;> cases (byte y).getLsbD i <;> cases (bitN 8 (byte x)).getLsbD i <;> cases (bitN 8 (byte y)).getLsbD i <;> rfl
      have e2 : s ^^^ (s ^^^ bitN 8 (byte y) ^^^ byte x ^^^ (bitN 8 (byte y) ^^^ byte y)) = byte x ^^^ byte y := by
        apply BitVec.eq_of_getLsbD_eq; intro i hi
        simp only [BitVec.getLsbD_xor]
        cases s.getLsbD i <;> cases (byte y).getLsbD i <;> cases (byte x).getLsbD i <;> cases (bitN 8 (byte y)).getLsbD i <;> rfl
      exact e1.symm.trans (h3.trans e2)
    rw [byte_xor] at h2
    have hl : byte (x ^^^ y) = BitVec.ofNat 32 (x ^^^ y).toNat := by
      apply BitVec.eq_of_toNat_eq; rw [byte_toNat]; have := (x ^^^ y).toNat_lt; simp
    rw [hl] at h2
    have h0 := fixed8 ⟨(x ^^^ y).toNat, (x ^^^ y).toNat_lt⟩ h2
    simp only at h0
    have hz : x ^^^ y = 0 := UInt8.toNat_inj.1 (by rw [h0]; rfl)
    have h4 := congrArg (· ^^^ y) hz
    simpa [UInt8.xor_assoc] using h4
  · rintro rfl; rfl
theorem more_append (s : BitVec 32) (a b : List UInt8) : more (more s a) b = more s (a ++ b) := by
  unfold more; rw [List.foldl_append, BitVec.not_not]
theorem more_nil (s : BitVec 32) : more s [] = s := by unfold more; simp
end SumP
end Go.Proofs.YtccjjlefpdlegaaDoor
