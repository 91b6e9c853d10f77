/- Layer 3 (pack), as plain functions: numbers and texts as bytes, and a reader. -/
import Derived.WalkKit
namespace Go.Proofs.Ytccjjlefpdlegaa
namespace PackP
/-- The lowest k bytes of a number, the highest first. -/
def be : Nat → Nat → List UInt8
  | 0, _ => []
  | k + 1, n => UInt8.ofNat (n / 2 ^ (8 * k)) :: be k n
theorem length_be (k n : Nat) : (be k n).length = k := by
  induction k with
  | zero => rfl
  | succ k ih => simp [be, ih]
theorem be_low (k : Nat) : ∀ n, be (k + 1) n = be k (n / 256) ++ [UInt8.ofNat n] := by
  induction k with
  | zero => intro n; simp [be]
  | succ k ih =>
    intro n
    have h : be (k + 1 + 1) n = UInt8.ofNat (n / 2 ^ (8 * (k + 1))) :: be (k + 1) n := rfl
    rw [h, ih n]
    have h2 : be (k + 1) (n / 256) = UInt8.ofNat (n / 256 / 2 ^ (8 * k)) :: be k (n / 256) := rfl
    rw [h2, List.cons_append]
    congr 2
    rw [Nat.div_div_eq_div_mul, Nat.mul_add, Nat.pow_add, Nat.mul_comm]
def numOf (bs : List UInt8) : Nat := bs.foldl (fun n c => n * 256 + c.toNat) 0
theorem numOf_snoc (bs : List UInt8) (c : UInt8) : numOf (bs ++ [c]) = numOf bs * 256 + c.toNat := by
  unfold numOf; rw [List.foldl_append]; rfl
theorem numOf_be (k : Nat) : ∀ n, n < 256 ^ k → numOf (be k n) = n := by
  induction k with
  | zero => intro n h; simp at h; subst h; rfl
  | succ k ih =>
    intro n h
    rw [be_low, numOf_snoc, ih (n / 256) (by rw [Nat.pow_succ] at h; omega), UInt8.toNat_ofNat']
    omega
theorem fold_lt (bs : List UInt8) : ∀ a : Nat, bs.foldl (fun n c => n * 256 + c.toNat) a < (a + 1) * 256 ^ bs.length := by
  induction bs with
  | nil => intro a; simp
  | cons c bs ih =>
    intro a
    have hc := c.toNat_lt
    have h := ih (a * 256 + c.toNat)
    rw [List.foldl_cons, List.length_cons, Nat.pow_succ, Nat.mul_comm (256 ^ bs.length) 256, ← Nat.mul_assoc]
    exact Nat.lt_of_lt_of_le h (Nat.mul_le_mul_right _ (by omega))
theorem numOf_lt (bs : List UInt8) : numOf bs < 256 ^ bs.length := by
  have := fold_lt bs 0
  simpa [numOf] using this
/-- A number that is laid, cut to what may be laid. -/
def clamp (n : Int) : Nat := if n ≤ 0 then 0 else if 4611686018427387904 ≤ n then 4611686018427387904 else n.toNat
theorem clamp_le (n : Int) : clamp n ≤ 4611686018427387904 := by unfold clamp; split <;> (try split) <;> omega
def numB (n : Int) : List UInt8 := be 8 (clamp n)
def cutT (s : List UInt8) : List UInt8 := s.take 4096
def textB (s : List UInt8) : List UInt8 := be 4 (cutT s).length ++ cutT s
theorem cutT_len (s : List UInt8) : (cutT s).length ≤ 4096 := List.length_take_le _ _
/-- A reader: what is left, and the error. -/
structure RS where
  b : List UInt8
  e : Int
def RS.fail (r : RS) (bad : Bool) (x : Int) : RS := if bad = true ∧ r.e = 0 then { r with e := x } else r
def RS.take (r : RS) (n : Nat) : RS × Option (List UInt8) :=
  if r.e = 0 then (if r.b.length < n then ({ r with e := 2 }, none) else ({ r with b := r.b.drop n }, some (r.b.take n))) else (r, none)
def RS.num (r : RS) : RS × Int :=
  match r.take 8 with
  | (r, none) => (r, 0)
  | (r, some b) => if 4611686018427387904 < numOf b then ({ r with e := 3 }, 0) else (r, (numOf b : Int))
def RS.text (r : RS) : RS × List UInt8 :=
  match r.take 4 with
  | (r, none) => (r, [])
  | (r, some b) => if 4096 < numOf b then ({ r with e := 4 }, []) else match r.take (numOf b) with
    | (r, none) => (r, [])
    | (r, some s) => (r, s)
def RS.count (r : RS) (most : Int) : RS × Int :=
  let (r, n) := r.num
  if r.e = 0 then (if most < n then ({ r with e := 4 }, 0) else (r, n)) else (r, 0)
def RS.doneE (r : RS) : Int := if r.e = 0 ∧ 0 < r.b.length then 3 else r.e
end PackP
end Go.Proofs.Ytccjjlefpdlegaa
