/- Layer 1 (sector), the document's answer: deed. -/
import Derived.Test.YtaijompnohkmaaaGreatDoorZCopyW
set_option linter.unusedSimpArgs false
set_option linter.unusedVariables false
namespace Go.Proofs.YtaijompnohkmaaaGreatDoor
open Go.RowKit
/-- A disk of one's own,in two rows: the sectors below C,the writes from C on. -/
def DiskO (B C : Nat) (w : World) (sv lv : Value) (d : DiskP) : Prop:=SecsO B w sv d.secs ∧ RowIn B C w sv 64 d.secs.length (d.secs.map u8s).flatten ∧ LooseO C w lv d.loose
theorem DiskO.setOther {B C : Nat} {w : World} {sv lv : Value} {d : DiskP} (h : DiskO B C w sv lv d) (p : Addr) (u : Value) (hp : p.block < B) (hC : B ≤ C) : DiskO B C (w.setCell p u) sv lv d :=
 ⟨h.1.setOther p u hp,h.2.1.setOther p u hp,h.2.2.setOther p u (Nat.lt_of_lt_of_le hp hC)⟩
theorem DiskO.put4 {B C g : Nat} {w : World} {sv lv : Value} {d : DiskP} (h : DiskO B C w sv lv d) (hp : g < B) (hC : B ≤ C) (a b c e : Value) : DiskO B C (put4 w g a b c e) sv lv d :=
 (((h.setOther ⟨g,0,none⟩ a hp hC).setOther ⟨g,1,none⟩ b hp hC).setOther ⟨g,2,none⟩ c hp hC).setOther ⟨g,3,none⟩ e hp hC
theorem DiskO.lower {B B' C : Nat} {w : World} {sv lv : Value} {d : DiskP} (h : DiskO B C w sv lv d) (hB : B' ≤ B) : DiskO B' C w sv lv d :=
 ⟨h.1.lower hB,by
  obtain ⟨hl,a,cap,rfl,h1,h2,h3⟩:=h.2.1
  refine ⟨hl,a,cap,rfl,h1,h2,fun hp=>?_⟩
  obtain ⟨b,off,hb,hBb,hc⟩:=h3 hp
  exact ⟨b,off,hb,Nat.le_trans hB hBb,hc⟩,h.2.2⟩
theorem DiskO.of {B C : Nat} {w : World} {sv lv : Value} {d : DiskP} (h1 : SecsO B w sv d.secs) (r : Row C w sv 64 d.secs.length (d.secs.map u8s).flatten) (h2 : LooseO C w lv d.loose) : DiskO B C w sv lv d:=⟨h1,RowIn.of h1.2 r,h2⟩
end Go.Proofs.YtaijompnohkmaaaGreatDoor
