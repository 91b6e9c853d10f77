/- A slice of bytes turned into a string, and strings compared. -/
import Derived.Test.YtccjjlefpdlegaaOwn
import Derived.Laws.BytesArg
namespace Go.Proofs.Ytccjjlefpdlegaa
open Go.RowKit
/-- The string of bytes. -/
def strB (bs : List UInt8) : ByteArray := ⟨bs.toArray⟩
theorem strB_toList (bs : List UInt8) : (strB bs).data.toList = bs := rfl
theorem strB_inj {a b : List UInt8} (h : strB a = strB b) : a = b := by
  have := congrArg (fun s : ByteArray => s.data.toList) h
  simpa [strB] using this
theorem strB_of (s : ByteArray) : strB s.data.toList = s := by
  cases s; rfl
theorem run_bytes_string {P : Program} {src dst e : TypeId} (hs : P.underlying src = some (.slice e)) (he : P.underlying e = some (.int .u8)) (hd : P.underlying dst = some .string)
    {B : Nat} {w : World} {v : Value} {bs : List UInt8} (h : Bytes B w v bs) : (convert src dst v).run P w = .ok (.string (strB bs)) w := by
  have hsrc := (Row.src (P := P) h).2.2 w (fun _ => rfl)
  obtain ⟨h1, a, cap, rfl, h2, h3, h4⟩ := h
  cases a with
  | none =>
    have hn : bs = [] := by
      cases bs with
      | nil => rfl
      | cons b bs => obtain ⟨b, off, h, _⟩ := h4 (by simp); cases h
    subst hn
    exact run_convert_bytes_nil w src e hs he _ _ dst hd
  | some ad =>
    simp only [Builtin.firstCells, Nat.mul_one] at hsrc
    have hl : (loadCells ad bs.length).run P w = .ok ((bs.map fun b => (b.toNat : Int)).map (Value.int .u8)).toArray w := by
      rw [hsrc]
      congr 2
      rw [List.map_map]; rfl
    rw [run_convert_bytes_string w src dst e _ bs.length cap hs he hd, run_bytesToString w _ bs.length cap _ hl, foldl_push_bytes]
    congr 2
    have : (bs.map fun b => (b.toNat : Int)).map (fun n => UInt8.ofNat n.toNat) = bs := by
      rw [List.map_map]
      conv => rhs; rw [← List.map_id bs]
      apply List.map_congr_left
      intro b _
      simp
    rw [this]
    simp [strB, ByteArray.empty, ByteArray.emptyWithCapacity]
    rfl
end Go.Proofs.Ytccjjlefpdlegaa
