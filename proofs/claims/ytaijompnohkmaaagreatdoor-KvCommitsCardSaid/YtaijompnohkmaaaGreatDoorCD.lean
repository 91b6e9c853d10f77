/- Layer 2 (sum): what each function of the code computes. -/
import Derived.Test.YtaijompnohkmaaaGreatDoorCC
import Derived.Test.YtaijompnohkmaaaGreatDoorProg
import Derived.KernelRfl
import Derived.Lib.Hide
import Derived.Lib.SlBytesConst
import Derived.Deep.QuietTactic
import Derived.BigQuiet
import Derived.Deep.CutRange
import Derived.WalkKit
import Derived.Deep.RegionHeld3
import Derived.ChangeKeysEq
import Derived.WalkSpells
import Derived.WalkLawsBesides
set_option linter.unusedSimpArgs false
set_option linter.unusedVariables false
namespace Go.Proofs.YtaijompnohkmaaaGreatDoor
section
open Go.RowKit SumP
def TabAt (w:World):Prop:=∀ x:BitVec 32,x.toNat<16→w.cell? ⟨1,x.toNat,none⟩=some (.int .u32 (toI (tab x)))
theorem TabAt.below {B:Nat} {w w':World} (h:TabAt w) (hb:Below B w w') (hB:1<B):TabAt w' :=
 fun x hx=>(hb.cell (p:=⟨1,x.toNat,none⟩) hB).trans (h x hx)
set_option maxHeartbeats 400000 in
theorem half_raw (s v q t:Int) (w:World) (h0:0≤s) (h1:s<4294967296) (hq:bits .and .u32 s 15=q) (hq0:0≤q) (hq1:q<16)
  (ht:w.cell? ⟨1,q.toNat,none⟩=some (.int .u32 t)) (hv:bits .xor .u32 (s / 16) t=v) :
  Calls Tryz.prog 172 #[.int .u32 s] w fun e w'=>e = .returned (.int .u32 v)∧w=w':=by
 go_enter Tryz.func172,Tryz.ntmps172
 go_wp2
 go_ret
 exact⟨rfl,rfl⟩
theorem half_any (x:BitVec 32) (w:World) (ht:TabAt w) :
  Calls Tryz.prog 172 #[.int .u32 (toI x)] w fun e w'=>e = .returned (.int .u32 (toI (half x)))∧w=w':=by
 have hx:=toI_hi x
 have h15:=and15_lt x
 refine half_raw (toI x) _ (toI (x &&& 15#32)) (toI (tab (x &&& 15#32))) w (toI_lo x) hx ?_ (toI_lo _) (by unfold toI;omega) ?_ ?_
 ·exact bits_and x 15#32
 ·exact ht (x &&& 15#32) h15
 ·rw [shr4,bits_xor];rfl
theorem more_snoc (s:BitVec 32) (l:List UInt8) (b:UInt8):(l++[b]).foldl step1 s=half (half (l.foldl step1 s ^^^ byte b)):=by
 rw [List.foldl_append];rfl
theorem u32_u8 (b:UInt8):(b.toNat:Int)%4294967296=toI (byte b):=by
 have:=b.toNat_lt;unfold toI;rw [byte_toNat];omega
set_option maxHeartbeats 400000 in
theorem more_any (s:BitVec 32) (v:Value) (bs:List UInt8) (w:World) (B:Nat) (ht:TabAt w) (hr:Bytes B w v bs) :
  Calls Tryz.prog 152 #[.int .u32 (toI s),v] w fun e w'=>e = .returned (.int .u32 (toI (more s bs)))∧w=w':=by
 obtain⟨_,a,cap,rfl,hnc,hcap,hcells⟩:=hr
 unfold maxLen at hcap
 obtain⟨S0,hS0⟩:∃ S0,S0 = ~~~ s:=⟨_,rfl⟩
 have hn0:=not_eq s
 rw [← hS0] at hn0
 have HM:Hid (more s bs = ~~~ (bs.foldl step1 S0)):=by rw [hS0];exact rfl
 clear hS0
 have sgn:IntKind.u32.signed=false:=rfl
 go_enter Tryz.func152,Tryz.ntmps152
 go_wp2
 clear hn0
 go_loop [5,12] (fun t i=>∃ k:Nat,k≤bs.length∧i = .int .i64 k∧t = .int .u32 (toI ((bs.take k).foldl step1 S0))) (fun _ i=>bs.length-(intOf i).toNat)
 case atStart=>exact⟨0,Nat.zero_le _,rfl,rfl⟩
 case round =>
  obtain⟨k,hk,rfl,rfl⟩:=hrel
  by_cases hlt:k<bs.length
  ·obtain⟨b,off,rfl,hB,hc⟩:=hcells (by omega)
   have hcell:=hc k _ (u8s_at hlt)
   obtain⟨S,hS⟩:∃ S,S=(bs.take k).foldl step1 S0:=⟨_,rfl⟩
   obtain⟨X,hX⟩:∃ X,X=S ^^^ byte bs[k]:=⟨_,rfl⟩
   have hx:=bits_xor S (byte bs[k])
   rw [← hX] at hx
   have hz:=u32_u8 bs[k]
   have HS:Hid ((bs.take (k+1)).foldl step1 S0=half (half X)):=by
    rw [hX,hS,← more_snoc,← List.take_succ_eq_append_getElem hlt];exact rfl
   rw [← hS]
   clear hS hc hcells hX
   go_wp2_with (go_at_call 172;((with_reducible refine (half_any _ _ ht).mono ?_);rintro e w' ⟨rfl,rfl⟩))
   all_goals
    go_round
    case rel=>exact⟨k+1,by omega,by go_num,by rw [HS.out]⟩
    case measure=>simp [intOf];omega
  ·have hke:k=bs.length:=by omega
   subst hke
   rw [List.take_length]
   have hn1:=not_eq (bs.foldl step1 S0)
   go_wp2
   go_ret
   exact⟨ret_int (by rw [HM.out]),rfl⟩
theorem toI_0:toI 0#32=0:=by decide
theorem more0_any (v:Value) (bs:List UInt8) (w:World) (B:Nat) (ht:TabAt w) (hr:Bytes B w v bs) :
  Calls Tryz.prog 152 #[.int .u32 0,v] w fun e w'=>e = .returned (.int .u32 (toI (more 0#32 bs)))∧w=w':=by
 have h:=more_any 0#32 v bs w B ht hr
 rwa [toI_0] at h
set_option maxHeartbeats 400000 in
theorem sum_any (v:Value) (bs:List UInt8) (w:World) (B:Nat) (ht:TabAt w) (hr:Bytes B w v bs) :
  Calls Tryz.prog 133 #[v] w fun e w'=>e = .returned (.int .u32 (toI (sum bs)))∧w=w':=by
 go_enter Tryz.func133,Tryz.ntmps133
 go_wp2_with (go_at_call 152;((with_reducible refine (more0_any _ bs _ B ht hr).mono ?_);rintro e w' ⟨rfl,rfl⟩))
 go_ret
 exact⟨rfl,rfl⟩
theorem bit_snoc (k:Nat) (s:BitVec 32):bitN (k+1) s=bit (bitN k s):=by
 rw [← bitN_add k 1];rfl
theorem low_bit (s:BitVec 32):bits .and .u32 (toI s) 1=(if s.getLsbD 0=true then 1 else 0):=by
 have h:(1:Int)=toI 1#32:=by decide
 have e:(s &&& 1#32).toNat=s.toNat%2:=by rw [BitVec.toNat_and];exact Nat.and_one_is_mod _
 have e2:s.getLsbD 0=decide (s.toNat%2=1):=by rw [← BitVec.testBit_toNat,Nat.testBit_zero]
 conv=>lhs;rw [h]
 rw [bits_and,e2];unfold toI;rw [e]
 by_cases h1:s.toNat%2=1
 ·simp [h1]
 ·simp [h1];omega
set_option maxHeartbeats 1000000 in
theorem refMore_any (s:BitVec 32) (v:Value) (bs:List UInt8) (w:World) (B:Nat) (hr:Bytes B w v bs) :
  Calls Tryz.prog 155 #[.int .u32 (toI s),v] w fun e w'=>e = .returned (.int .u32 (toI (more s bs)))∧w=w':=by
 obtain⟨_,a,cap,rfl,hnc,hcap,hcells⟩:=hr
 unfold maxLen at hcap
 obtain⟨S0,hS0⟩:∃ S0,S0 = ~~~ s:=⟨_,rfl⟩
 have hn0:=not_eq s
 rw [← hS0] at hn0
 have HM:Hid (more s bs = ~~~ (bs.foldl step1 S0)):=by rw [hS0];exact rfl
 clear hS0
 have sgn:IntKind.u32.signed=false:=rfl
 go_enter Tryz.func155,Tryz.ntmps155
 go_wp2
 clear hn0
 go_loop [5,6] (fun t i=>∃ k:Nat,k≤bs.length∧i = .int .i64 k∧t = .int .u32 (toI ((bs.take k).foldl step1 S0))) (fun _ i=>bs.length-(intOf i).toNat)
 case atStart=>exact⟨0,Nat.zero_le _,rfl,rfl⟩
 case round =>
  obtain⟨k,hk,rfl,rfl⟩:=hrel
  by_cases hlt:k<bs.length
  ·obtain⟨b,off,rfl,hB,hc⟩:=hcells (by omega)
   have hcell:=hc k _ (u8s_at hlt)
   obtain⟨S,hS⟩:∃ S,S=(bs.take k).foldl step1 S0:=⟨_,rfl⟩
   obtain⟨X,hX⟩:∃ X,X=S ^^^ byte bs[k]:=⟨_,rfl⟩
   have hx:=bits_xor S (byte bs[k])
   rw [← hX] at hx
   have hz:=u32_u8 bs[k]
   have HS:Hid ((bs.take (k+1)).foldl step1 S0=bitN 8 X):=by
    rw [hX,hS,List.take_succ_eq_append_getElem hlt,List.foldl_append,List.foldl_cons,List.foldl_nil,step1_eq];exact rfl
   rw [← hS]
   clear hS hc hcells hX
   go_wp2
   clear hx hz hcell
   go_loop [5,7] (fun t i=>∃ j:Nat,j≤8∧i = .int .i64 j∧t = .int .u32 (toI (bitN j X))) (fun _ i=>8-(intOf i).toNat)
   case atStart=>exact⟨0,Nat.zero_le _,rfl,rfl⟩
   case round =>
    obtain⟨j,hj,rfl,rfl⟩:=hrel
    by_cases hjl:j<8
    ·obtain⟨Y,hY⟩:∃ Y,Y=bitN j X:=⟨_,rfl⟩
     have HY:Hid (bitN (j+1) X=bit Y):=by rw [hY,bit_snoc];exact rfl
     rw [← hY]
     clear hY
     have hl:=low_bit Y
     have hs:=shr1 Y
     have hlo:=toI_lo Y
     obtain⟨Z,hZ⟩:∃ Z,Z=(Y >>> 1) ^^^ 0xedb88320#32:=⟨_,rfl⟩
     have hp:=bits_xor (Y >>> 1) 0xedb88320#32
     rw [show toI 0xedb88320#32=3988292384 by decide,← hZ] at hp
     obtain⟨V,hV⟩:∃ V,V=Y >>> 1:=⟨_,rfl⟩
     rw [← hV] at hp hs
     have HB:Hid (bit Y=if Y.getLsbD 0=true then Z else V):=by
      unfold bit;rw [hZ,hV];cases Y.getLsbD 0 <;> simp <;> exact trivial
     clear hZ hV
     cases hg:Y.getLsbD 0 with
     | true =>
      rw [hg,if_pos rfl] at hl
      have HB':Hid (bit Y=Z):=by rw [HB.out,hg,if_pos rfl];exact rfl
      clear HB hg
      go_wp2
      all_goals
       go_round
       case rel=>exact⟨j+1,by omega,by go_num,by rw [HY.out,HB'.out]⟩
       case measure=>simp [intOf];omega
     | false =>
      rw [hg,if_neg (by decide)] at hl
      have HB':Hid (bit Y=V):=by rw [HB.out,hg,if_neg (by decide)];exact rfl
      clear HB hg
      go_wp2
      all_goals
       go_round
       case rel=>exact⟨j+1,by omega,by go_num,by rw [HY.out,HB'.out]⟩
       case measure=>simp [intOf];omega
    ·have hje:j=8:=by omega
     subst hje
     go_wp2
     all_goals
      go_round
      case rel=>exact⟨k+1,by omega,by go_num,by rw [HS.out]⟩
      case measure=>simp [intOf];omega
  ·have hke:k=bs.length:=by omega
   subst hke
   rw [List.take_length]
   have hn1:=not_eq (bs.foldl step1 S0)
   go_wp2
   go_ret
   exact⟨ret_int (by rw [HM.out]),rfl⟩
theorem refMore0_any (v:Value) (bs:List UInt8) (w:World) (B:Nat) (hr:Bytes B w v bs) :
  Calls Tryz.prog 155 #[.int .u32 0,v] w fun e w'=>e = .returned (.int .u32 (toI (more 0#32 bs)))∧w=w':=by
 have h:=refMore_any 0#32 v bs w B hr
 rwa [toI_0] at h
theorem refSum_any (v:Value) (bs:List UInt8) (w:World) (B:Nat) (hr:Bytes B w v bs) :
  Calls Tryz.prog 138 #[v] w fun e w'=>e = .returned (.int .u32 (toI (sum bs)))∧w=w':=by
 go_enter Tryz.func138,Tryz.ntmps138
 go_wp2_with (go_at_call 155;((with_reducible refine (refMore0_any _ bs _ B hr).mono ?_);rintro e w' ⟨rfl,rfl⟩))
 go_ret
 exact⟨rfl,rfl⟩
end
section
open Go.RowKit WalP
set_option maxRecDepth 100000 in
theorem takes_any (n:Int) (w:World):Calls Tryz.prog 104 #[.int .i64 n] w fun e w'=>e = .returned (.int .i64 (takesZ n))∧w=w':=by
 by_cases h1:n<1
 ·have hf:takesZ n=0:=by unfold takesZ;rw [if_pos (.inl h1)]
  have t0:decide (n<1)=true:=by simp;omega
  rw [hf]
  clear hf h1
  go_enter Tryz.func104,Tryz.ntmps104
  go_wp2
  go_ret
  exact⟨rfl,rfl⟩
 ·have t0:decide (n<1)=false:=by simp;omega
  by_cases h2:6000<n
  ·have hf:takesZ n=0:=by unfold takesZ;rw [if_pos (.inr h2)]
   have t1:decide (6000<n)=true:=by simp;omega
   rw [hf]
   clear hf h1 h2
   go_enter Tryz.func104,Tryz.ntmps104
   go_wp2
   go_ret
   exact⟨rfl,rfl⟩
  ·have t1:decide (6000<n)=false:=by simp;omega
   have hf:takesZ n=1+(n+63) / 64:=by unfold takesZ;rw [if_neg (by omega)]
   have HF:=zh hf
   clear hf
   go_enter Tryz.func104,Tryz.ntmps104
   go_wp2
   go_ret
   refine⟨ret_int ?_,rfl⟩
   rw [HF.out]
   omega
set_option maxRecDepth 100000 in
theorem walHalf_any {B:Nat} (v:Value) (d:DiskP) (w:World) (h:DiskV B w v d) :
  Calls Tryz.prog 96 #[v] w fun e w'=>e = .returned (.int .i64 (half d:Nat))∧Below w.heap.size w w':=by
 obtain⟨a1,n1,a2,n2,rfl,hs,hl⟩:=h.parts
 have hcs:=hs.2
 obtain⟨_,_,_,hv,hnc,hcap1,_⟩:=hcs
 cases hv
 unfold maxLen at hcap1
 have hb:Below w.heap.size w (w.alloc (.cells #[.slice a1 d.secs.length n1,.slice a2 d.loose.length n2,.int .i64 d.fuse,.bool d.down] 38)):=Below.alloc (Below.refl _ _) (Nat.le_refl _) _
 obtain⟨L,hL⟩:∃ L,L=d.secs.length:=⟨_,rfl⟩
 have hh:half d=L / 2:=by unfold half;rw [hL]
 rw [hh]
 rw [← hL] at hb hnc ⊢
 have HL:=zh hL
 clear hL hh hs hl h
 go_enter Tryz.func96,Tryz.ntmps96
 go_wp2
 go_ret
 exact⟨ret_int (by omega),hb⟩
def logV (l:LogP):Value:=.agg #[.int .i64 l.half,.int .i64 l.gen,.int .i64 l.used,.int .i64 l.count]
end
section
open Go.RowKit
theorem andNot1 (x:BitVec 64):x &&& ~~~1#64=(x >>> 1) <<< 1:=by
 apply BitVec.eq_of_getLsbD_eq
 intro i hi
 simp only [BitVec.getLsbD_and,BitVec.getLsbD_not,BitVec.getLsbD_shiftLeft,BitVec.getLsbD_ushiftRight,BitVec.getLsbD_one,hi,decide_true,Bool.true_and]
 by_cases h0:i=0
 ·subst h0;simp
 ·have e:1+(i-1)=i:=by omega
  simp [h0,e]
theorem half_bit (h:Int) (h0:-9223372036854775808≤h) (h1:h≤9223372036854775807):(bits .andNot .i64 h 1 == 0)=(decide (h=0) || decide (h=1)):=by
 have e1:BitVec.ofInt 64 1=1#64:=by decide
 simp only [bits,IntKind.bits,e1,andNot1]
 have ex:(BitVec.ofInt 64 h).toNat=(h%18446744073709551616).toNat:=by simp [BitVec.toNat_ofInt]
 have e2:(((BitVec.ofInt 64 h) >>> 1) <<< 1).toNat=(h%18446744073709551616).toNat / 2*2:=by
  rw [BitVec.toNat_shiftLeft,BitVec.toNat_ushiftRight,ex,Nat.shiftRight_eq_div_pow,Nat.shiftLeft_eq]
  omega
 have e3:∀ x:Nat,x=(((BitVec.ofInt 64 h) >>> 1) <<< 1).toNat→(IntKind.i64.wrap (x:Int) == 0)=(decide (h=0) || decide (h=1)):=by
  intro x hx
  rw [e2] at hx
  subst hx
  simp only [IntKind.wrap,IntKind.bits,IntKind.signed]
  rw [Bool.eq_iff_iff]
  simp
  omega
 exact e3 _ (congrArg BitVec.toNat (andNot1 (BitVec.ofInt 64 h)))
end
section
open Go.RowKit WalP
def boxes (w:World) (A:Array Value) (l:LogP):World:=(w.alloc (.cells A 38)).alloc (.cells #[.int .i64 l.half,.int .i64 l.gen,.int .i64 l.used,.int .i64 l.count] 41)
theorem boxes_below (w:World) (A:Array Value) (l:LogP):Below w.heap.size w (boxes w A l):=Below.alloc (Below.alloc (Below.refl _ _) (Nat.le_refl _) _) (by simp) _
theorem boxes_cells {w w':World} {A:Array Value} {l:LogP} (hb:Below (boxes w A l).heap.size (boxes w A l) w'):w'.heap[w.heap.size]?=some (.cells A 38 (0,0)) ∧
  w'.heap[w.heap.size+1]?=some (.cells #[.int .i64 l.half,.int .i64 l.gen,.int .i64 l.used,.int .i64 l.count] 41 (0,0)):=by
 have e:(boxes w A l).heap.size=w.heap.size+2:=by simp [boxes]
 exact⟨(hb.block _ (by omega)).trans (heap_alloc2_old w _ _),(hb.block _ (by omega)).trans (heap_alloc2_new w _ _)⟩
set_option maxRecDepth 100000 in
set_option maxHeartbeats 1000000 in
theorem walRight_any {B:Nat} (v:Value) (d:DiskP) (l:LogP) (w:World) (h:DiskV B w v d) (hl0:-9223372036854775808≤l.half∧l.half≤9223372036854775807) :
  Calls Tryz.prog 67 #[v,logV l] w fun e w'=>e = .returned (.bool (rightL d l))∧Below w.heap.size w w':=by
 obtain⟨a1,n1,a2,n2,rfl,hs,hl⟩:=h.tight.parts
 have hbit:=half_bit l.half hl0.1 hl0.2
 obtain⟨w2,hw2⟩:∃ w2,w2=boxes w #[.slice a1 d.secs.length n1,.slice a2 d.loose.length n2,.int .i64 d.fuse,.bool d.down] l:=⟨_,rfl⟩
 have hdv:DiskV w.heap.size w (.agg #[.slice a1 d.secs.length n1,.slice a2 d.loose.length n2,.int .i64 d.fuse,.bool d.down]) d:=⟨_,_,rfl,hs,hl⟩
 have hb2:Below w.heap.size w w2:=by rw [hw2];exact boxes_below w _ l
 have hD:∀ w',Below w2.heap.size w2 w'→DiskV w2.heap.size w' (.agg #[.slice a1 d.secs.length n1,.slice a2 d.loose.length n2,.int .i64 d.fuse,.bool d.down]) d:=fun w' hb=>(hdv.below hb2).tight.below hb
 have hC:∀ w',Below w2.heap.size w2 w'→_:=fun w' hb=>boxes_cells (w:=w) (w':=w') (l:=l) (by rw [← hw2];exact hb)
 have hA0:∀ w',Below w2.heap.size w2 w'→_:=fun w' hb=>cR w' _ 0 _ _ _ (hC w' hb).1
 have hA1:∀ w',Below w2.heap.size w2 w'→_:=fun w' hb=>cR w' _ 1 _ _ _ (hC w' hb).1
 have hA2:∀ w',Below w2.heap.size w2 w'→_:=fun w' hb=>cR w' _ 2 _ _ _ (hC w' hb).1
 have hA3:∀ w',Below w2.heap.size w2 w'→_:=fun w' hb=>cR w' _ 3 _ _ _ (hC w' hb).1
 have hB0:∀ w',Below w2.heap.size w2 w'→_:=fun w' hb=>cR w' _ 0 _ _ _ (hC w' hb).2
 have hB1:∀ w',Below w2.heap.size w2 w'→_:=fun w' hb=>cR w' _ 1 _ _ _ (hC w' hb).2
 have hB2:∀ w',Below w2.heap.size w2 w'→_:=fun w' hb=>cR w' _ 2 _ _ _ (hC w' hb).2
 have hB3:∀ w',Below w2.heap.size w2 w'→_:=fun w' hb=>cR w' _ 3 _ _ _ (hC w' hb).2
 have hF:∀ w',Below w2.heap.size w2 w'→Below w.heap.size w w':=fun w' hb=>hb2.trans (hb.mono hb2.size)
 have HD:=zh hD
 have HF:=zh hF
 obtain⟨R,hR⟩:∃ R,R=rightB d:=⟨_,rfl⟩
 have kR:∀ w',Below w2.heap.size w2 w'→Calls Tryz.prog 90 #[.agg #[.slice a1 d.secs.length n1,.slice a2 d.loose.length n2,.int .i64 d.fuse,.bool d.down]] w' fun e w''=>e = .returned (.bool R)∧Below w2.heap.size w2 w'' :=
  fun w' hb=>(right_any _ d w' (hD w' hb)).mono fun e w'' hx=>⟨by rw [hR];exact hx.1,hb.trans (hx.2.mono hb.size)⟩
 have kH:∀ w',Below w2.heap.size w2 w'→Calls Tryz.prog 96 #[.agg #[.slice a1 d.secs.length n1,.slice a2 d.loose.length n2,.int .i64 d.fuse,.bool d.down]] w' fun e w''=>e = .returned (.int .i64 (half d:Nat))∧Below w2.heap.size w2 w'' :=
  fun w' hb=>(walHalf_any _ d w' (hD w' hb)).mono fun e w'' hx=>⟨hx.1,hb.trans (hx.2.mono hb.size)⟩
 have KR:=zh kR
 have KH:=zh kH
 have HB:=zh hbit
 have h00:Below w2.heap.size w2 w2.drew:=zD (Below.refl _ _) 1
 unfold boxes at hw2
 have HW:=zh hw2
 clear hC hD hF kR kH hbit hdv hb2 hs hl h hl0 hw2
 unfold logV
 have hr:rightL d l=(R&&(bits BinOp.andNot IntKind.i64 l.half 1 == 0)&&decide (1≤l.gen)&&decide (l.gen≤1099511627776)&&decide (2≤l.used)&&decide (l.used≤(half d:Nat))&&decide (1≤l.count)&&decide (l.count≤l.used)):=by rw [HB.out,hR];rfl
 obtain⟨c1,h1⟩:∃ c,(bits BinOp.andNot IntKind.i64 l.half 1 == 0)=c:=⟨_,rfl⟩
 obtain⟨c2,h2⟩:∃ c,decide (1≤l.gen)=c:=⟨_,rfl⟩
 obtain⟨c3,h3⟩:∃ c,decide (l.gen≤1099511627776)=c:=⟨_,rfl⟩
 obtain⟨c4,h4⟩:∃ c,decide (2≤l.used)=c:=⟨_,rfl⟩
 obtain⟨c5,h5⟩:∃ c,decide (l.used≤(half d:Nat))=c:=⟨_,rfl⟩
 obtain⟨c6,h6⟩:∃ c,decide (1≤l.count)=c:=⟨_,rfl⟩
 obtain⟨c7,h7⟩:∃ c,decide (l.count≤l.used)=c:=⟨_,rfl⟩
 rw [h1,h2,h3,h4,h5,h6,h7] at hr
 rw [hr]
 clear hr hR HB
 cases R with
 | false =>
  go_enter Tryz.func67,Tryz.ntmps67
  go_wp2_with fail
  rw [← HW.out]
  refine zI [(false,0),(true,1),(false,2),(false,3),(false,4),(false,5),(false,6),(false,7),(false,8),(false,9),(false,10),(false,11),(false,12),(false,13),(false,14),(false,15),(false,16),(false,17),(false,18),(false,19),(false,20),(false,21),(false,22),(false,23),(false,24),(false,25),(false,26),(true,27),(false,28),(false,29),(false,30),(false,31),(false,32),(false,33),(false,34),(false,35),(false,36),(false,37),(false,38),(false,39),(false,40),(false,41),(false,42)] (fun w'=>Below w2.heap.size w2 w') (by kernel_rfl) (by kernel_rfl) h00 ?_
  repeat (first | (refine zS rfl rfl ?_;simp only [Act.put,zq1,zq2,zq3]) | (refine zT rfl ?_ rfl (fun w' hw'=>?_) ?_;rotate_left;(go_simp;first | done | with_reducible rfl);(try simp only [Act.put,zq1,zq2,zq3])))
  refine zA rfl rfl fun K hK=>?_
  go_simp
  refine (KR.out _ ‹_›).mono ?_
  rintro e w5 ⟨rfl,hb5⟩
  refine hK.out _ _ hb5 ?_
  clear hK K h00
  repeat (first | (refine zS rfl rfl ?_;simp only [Act.put,zq1,zq2,zq3]) | (refine zT rfl ?_ rfl (fun w' hw'=>?_) ?_;rotate_left;(go_simp;first | done | with_reducible rfl);(try simp only [Act.put,zq1,zq2,zq3])))
  refine heldI_pass rfl rfl hb5 ?_
  simp only [Act.put,zq1,zq2,zq3]
  repeat (first | (refine zS rfl rfl ?_;simp only [Act.put,zq1,zq2,zq3]) | (refine zT rfl ?_ rfl (fun w' hw'=>?_) ?_;rotate_left;(go_simp;first | done | with_reducible rfl);(try simp only [Act.put,zq1,zq2,zq3])))
  refine zN ?_
  go_wp2_with fail
  go_ret
  exact⟨rfl,HF.out _ hb5⟩
 | true =>
  cases c1 with
  | false =>
   go_enter Tryz.func67,Tryz.ntmps67
   go_wp2_with fail
   rw [← HW.out]
   refine zI [(false,0),(true,1),(false,2),(false,3),(false,4),(false,5),(false,6),(false,7),(false,8),(false,9),(false,10),(false,11),(false,12),(false,13),(false,14),(false,15),(false,16),(false,17),(false,18),(false,19),(false,20),(false,21),(false,22),(false,23),(false,24),(false,25),(false,26),(true,27),(false,28),(false,29),(false,30),(false,31),(false,32),(false,33),(false,34),(false,35),(false,36),(false,37),(false,38),(false,39),(false,40),(false,41),(false,42)] (fun w'=>Below w2.heap.size w2 w') (by kernel_rfl) (by kernel_rfl) h00 ?_
   repeat (first | (refine zS rfl rfl ?_;simp only [Act.put,zq1,zq2,zq3]) | (refine zT rfl ?_ rfl (fun w' hw'=>?_) ?_;rotate_left;(go_simp;first | done | with_reducible rfl);(try simp only [Act.put,zq1,zq2,zq3])))
   refine zA rfl rfl fun K hK=>?_
   go_simp
   refine (KR.out _ ‹_›).mono ?_
   rintro e w5 ⟨rfl,hb5⟩
   refine hK.out _ _ hb5 ?_
   clear hK K h00
   repeat (first | (refine zS rfl rfl ?_;simp only [Act.put,zq1,zq2,zq3]) | (refine zT rfl ?_ rfl (fun w' hw'=>?_) ?_;rotate_left;(go_simp;first | done | with_reducible rfl);(try simp only [Act.put,zq1,zq2,zq3])))
   refine heldI_pass rfl rfl hb5 ?_
   simp only [Act.put,zq1,zq2,zq3]
   repeat (first | (refine zS rfl rfl ?_;simp only [Act.put,zq1,zq2,zq3]) | (refine zT rfl ?_ rfl (fun w' hw'=>?_) ?_;rotate_left;(go_simp;first | done | with_reducible rfl);(try simp only [Act.put,zq1,zq2,zq3])))
   refine zN ?_
   go_wp2_with fail
   go_ret
   exact⟨rfl,HF.out _ hb5⟩
  | true =>
   cases c2 with
   | false =>
    go_enter Tryz.func67,Tryz.ntmps67
    go_wp2_with fail
    rw [← HW.out]
    refine zI [(false,0),(true,1),(false,2),(false,3),(false,4),(false,5),(false,6),(false,7),(false,8),(false,9),(false,10),(false,11),(false,12),(false,13),(false,14),(false,15),(false,16),(false,17),(false,18),(false,19),(false,20),(false,21),(false,22),(false,23),(false,24),(false,25),(false,26),(true,27),(false,28),(false,29),(false,30),(false,31),(false,32),(false,33),(false,34),(false,35),(false,36),(false,37),(false,38),(false,39),(false,40),(false,41),(false,42)] (fun w'=>Below w2.heap.size w2 w') (by kernel_rfl) (by kernel_rfl) h00 ?_
    repeat (first | (refine zS rfl rfl ?_;simp only [Act.put,zq1,zq2,zq3]) | (refine zT rfl ?_ rfl (fun w' hw'=>?_) ?_;rotate_left;(go_simp;first | done | with_reducible rfl);(try simp only [Act.put,zq1,zq2,zq3])))
    refine zA rfl rfl fun K hK=>?_
    go_simp
    refine (KR.out _ ‹_›).mono ?_
    rintro e w5 ⟨rfl,hb5⟩
    refine hK.out _ _ hb5 ?_
    clear hK K h00
    repeat (first | (refine zS rfl rfl ?_;simp only [Act.put,zq1,zq2,zq3]) | (refine zT rfl ?_ rfl (fun w' hw'=>?_) ?_;rotate_left;(go_simp;first | done | with_reducible rfl);(try simp only [Act.put,zq1,zq2,zq3])))
    refine heldI_pass rfl rfl hb5 ?_
    simp only [Act.put,zq1,zq2,zq3]
    repeat (first | (refine zS rfl rfl ?_;simp only [Act.put,zq1,zq2,zq3]) | (refine zT rfl ?_ rfl (fun w' hw'=>?_) ?_;rotate_left;(go_simp;first | done | with_reducible rfl);(try simp only [Act.put,zq1,zq2,zq3])))
    refine zN ?_
    go_wp2_with fail
    go_ret
    exact⟨rfl,HF.out _ hb5⟩
   | true =>
    cases c3 with
    | false =>
     go_enter Tryz.func67,Tryz.ntmps67
     go_wp2_with fail
     rw [← HW.out]
     refine zI [(false,0),(true,1),(false,2),(false,3),(false,4),(false,5),(false,6),(false,7),(false,8),(false,9),(false,10),(false,11),(false,12),(false,13),(false,14),(false,15),(false,16),(false,17),(false,18),(false,19),(false,20),(false,21),(false,22),(false,23),(false,24),(false,25),(false,26),(true,27),(false,28),(false,29),(false,30),(false,31),(false,32),(false,33),(false,34),(false,35),(false,36),(false,37),(false,38),(false,39),(false,40),(false,41),(false,42)] (fun w'=>Below w2.heap.size w2 w') (by kernel_rfl) (by kernel_rfl) h00 ?_
     repeat (first | (refine zS rfl rfl ?_;simp only [Act.put,zq1,zq2,zq3]) | (refine zT rfl ?_ rfl (fun w' hw'=>?_) ?_;rotate_left;(go_simp;first | done | with_reducible rfl);(try simp only [Act.put,zq1,zq2,zq3])))
     refine zA rfl rfl fun K hK=>?_
     go_simp
     refine (KR.out _ ‹_›).mono ?_
     rintro e w5 ⟨rfl,hb5⟩
     refine hK.out _ _ hb5 ?_
     clear hK K h00
     repeat (first | (refine zS rfl rfl ?_;simp only [Act.put,zq1,zq2,zq3]) | (refine zT rfl ?_ rfl (fun w' hw'=>?_) ?_;rotate_left;(go_simp;first | done | with_reducible rfl);(try simp only [Act.put,zq1,zq2,zq3])))
     refine heldI_pass rfl rfl hb5 ?_
     simp only [Act.put,zq1,zq2,zq3]
     repeat (first | (refine zS rfl rfl ?_;simp only [Act.put,zq1,zq2,zq3]) | (refine zT rfl ?_ rfl (fun w' hw'=>?_) ?_;rotate_left;(go_simp;first | done | with_reducible rfl);(try simp only [Act.put,zq1,zq2,zq3])))
     refine zN ?_
     go_wp2_with fail
     go_ret
     exact⟨rfl,HF.out _ hb5⟩
    | true =>
     cases c4 with
     | false =>
      go_enter Tryz.func67,Tryz.ntmps67
      go_wp2_with fail
      rw [← HW.out]
      refine zI [(false,0),(true,1),(false,2),(false,3),(false,4),(false,5),(false,6),(false,7),(false,8),(false,9),(false,10),(false,11),(false,12),(false,13),(false,14),(false,15),(false,16),(false,17),(false,18),(false,19),(false,20),(false,21),(false,22),(false,23),(false,24),(false,25),(false,26),(true,27),(false,28),(false,29),(false,30),(false,31),(false,32),(false,33),(false,34),(false,35),(false,36),(false,37),(false,38),(false,39),(false,40),(false,41),(false,42)] (fun w'=>Below w2.heap.size w2 w') (by kernel_rfl) (by kernel_rfl) h00 ?_
      repeat (first | (refine zS rfl rfl ?_;simp only [Act.put,zq1,zq2,zq3]) | (refine zT rfl ?_ rfl (fun w' hw'=>?_) ?_;rotate_left;(go_simp;first | done | with_reducible rfl);(try simp only [Act.put,zq1,zq2,zq3])))
      refine zA rfl rfl fun K hK=>?_
      go_simp
      refine (KR.out _ ‹_›).mono ?_
      rintro e w5 ⟨rfl,hb5⟩
      refine hK.out _ _ hb5 ?_
      clear hK K h00
      repeat (first | (refine zS rfl rfl ?_;simp only [Act.put,zq1,zq2,zq3]) | (refine zT rfl ?_ rfl (fun w' hw'=>?_) ?_;rotate_left;(go_simp;first | done | with_reducible rfl);(try simp only [Act.put,zq1,zq2,zq3])))
      refine heldI_pass rfl rfl hb5 ?_
      simp only [Act.put,zq1,zq2,zq3]
      repeat (first | (refine zS rfl rfl ?_;simp only [Act.put,zq1,zq2,zq3]) | (refine zT rfl ?_ rfl (fun w' hw'=>?_) ?_;rotate_left;(go_simp;first | done | with_reducible rfl);(try simp only [Act.put,zq1,zq2,zq3])))
      refine zN ?_
      go_wp2_with fail
      go_ret
      exact⟨rfl,HF.out _ hb5⟩
     | true =>
      cases c5 with
      | false =>
       go_enter Tryz.func67,Tryz.ntmps67
       go_wp2_with fail
       rw [← HW.out]
       refine zI [(false,0),(true,1),(false,2),(false,3),(false,4),(false,5),(false,6),(false,7),(false,8),(false,9),(false,10),(false,11),(false,12),(false,13),(false,14),(false,15),(false,16),(false,17),(false,18),(false,19),(false,20),(false,21),(false,22),(false,23),(false,24),(false,25),(false,26),(true,27),(false,28),(false,29),(false,30),(false,31),(false,32),(false,33),(false,34),(false,35),(false,36),(false,37),(false,38),(false,39),(false,40),(false,41),(false,42)] (fun w'=>Below w2.heap.size w2 w') (by kernel_rfl) (by kernel_rfl) h00 ?_
       repeat (first | (refine zS rfl rfl ?_;simp only [Act.put,zq1,zq2,zq3]) | (refine zT rfl ?_ rfl (fun w' hw'=>?_) ?_;rotate_left;(go_simp;first | done | with_reducible rfl);(try simp only [Act.put,zq1,zq2,zq3])))
       refine zA rfl rfl fun K hK=>?_
       go_simp
       refine (KR.out _ ‹_›).mono ?_
       rintro e w5 ⟨rfl,hb5⟩
       refine hK.out _ _ hb5 ?_
       clear hK K h00
       repeat (first | (refine zS rfl rfl ?_;simp only [Act.put,zq1,zq2,zq3]) | (refine zT rfl ?_ rfl (fun w' hw'=>?_) ?_;rotate_left;(go_simp;first | done | with_reducible rfl);(try simp only [Act.put,zq1,zq2,zq3])))
       refine zA rfl rfl fun K hK=>?_
       go_simp
       refine (KH.out _ ‹_›).mono ?_
       rintro e w6 ⟨rfl,hb6⟩
       refine hK.out _ _ hb6 ?_
       clear hK K hb5
       repeat (first | (refine zS rfl rfl ?_;simp only [Act.put,zq1,zq2,zq3]) | (refine zT rfl ?_ rfl (fun w' hw'=>?_) ?_;rotate_left;(go_simp;first | done | with_reducible rfl);(try simp only [Act.put,zq1,zq2,zq3])))
       refine zN ?_
       go_wp2_with fail
       go_ret
       exact⟨rfl,HF.out _ hb6⟩
      | true =>
       cases c6 with
       | false =>
        go_enter Tryz.func67,Tryz.ntmps67
        go_wp2_with fail
        rw [← HW.out]
        refine zI [(false,0),(true,1),(false,2),(false,3),(false,4),(false,5),(false,6),(false,7),(false,8),(false,9),(false,10),(false,11),(false,12),(false,13),(false,14),(false,15),(false,16),(false,17),(false,18),(false,19),(false,20),(false,21),(false,22),(false,23),(false,24),(false,25),(false,26),(true,27),(false,28),(false,29),(false,30),(false,31),(false,32),(false,33),(false,34),(false,35),(false,36),(false,37),(false,38),(false,39),(false,40),(false,41),(false,42)] (fun w'=>Below w2.heap.size w2 w') (by kernel_rfl) (by kernel_rfl) h00 ?_
        repeat (first | (refine zS rfl rfl ?_;simp only [Act.put,zq1,zq2,zq3]) | (refine zT rfl ?_ rfl (fun w' hw'=>?_) ?_;rotate_left;(go_simp;first | done | with_reducible rfl);(try simp only [Act.put,zq1,zq2,zq3])))
        refine zA rfl rfl fun K hK=>?_
        go_simp
        refine (KR.out _ ‹_›).mono ?_
        rintro e w5 ⟨rfl,hb5⟩
        refine hK.out _ _ hb5 ?_
        clear hK K h00
        repeat (first | (refine zS rfl rfl ?_;simp only [Act.put,zq1,zq2,zq3]) | (refine zT rfl ?_ rfl (fun w' hw'=>?_) ?_;rotate_left;(go_simp;first | done | with_reducible rfl);(try simp only [Act.put,zq1,zq2,zq3])))
        refine zA rfl rfl fun K hK=>?_
        go_simp
        refine (KH.out _ ‹_›).mono ?_
        rintro e w6 ⟨rfl,hb6⟩
        refine hK.out _ _ hb6 ?_
        clear hK K hb5
        repeat (first | (refine zS rfl rfl ?_;simp only [Act.put,zq1,zq2,zq3]) | (refine zT rfl ?_ rfl (fun w' hw'=>?_) ?_;rotate_left;(go_simp;first | done | with_reducible rfl);(try simp only [Act.put,zq1,zq2,zq3])))
        refine zN ?_
        go_wp2_with fail
        go_ret
        exact⟨rfl,HF.out _ hb6⟩
       | true =>
        cases c7 with
        | false =>
         go_enter Tryz.func67,Tryz.ntmps67
         go_wp2_with fail
         rw [← HW.out]
         refine zI [(false,0),(true,1),(false,2),(false,3),(false,4),(false,5),(false,6),(false,7),(false,8),(false,9),(false,10),(false,11),(false,12),(false,13),(false,14),(false,15),(false,16),(false,17),(false,18),(false,19),(false,20),(false,21),(false,22),(false,23),(false,24),(false,25),(false,26),(true,27),(false,28),(false,29),(false,30),(false,31),(false,32),(false,33),(false,34),(false,35),(false,36),(false,37),(false,38),(false,39),(false,40),(false,41),(false,42)] (fun w'=>Below w2.heap.size w2 w') (by kernel_rfl) (by kernel_rfl) h00 ?_
         repeat (first | (refine zS rfl rfl ?_;simp only [Act.put,zq1,zq2,zq3]) | (refine zT rfl ?_ rfl (fun w' hw'=>?_) ?_;rotate_left;(go_simp;first | done | with_reducible rfl);(try simp only [Act.put,zq1,zq2,zq3])))
         refine zA rfl rfl fun K hK=>?_
         go_simp
         refine (KR.out _ ‹_›).mono ?_
         rintro e w5 ⟨rfl,hb5⟩
         refine hK.out _ _ hb5 ?_
         clear hK K h00
         repeat (first | (refine zS rfl rfl ?_;simp only [Act.put,zq1,zq2,zq3]) | (refine zT rfl ?_ rfl (fun w' hw'=>?_) ?_;rotate_left;(go_simp;first | done | with_reducible rfl);(try simp only [Act.put,zq1,zq2,zq3])))
         refine zA rfl rfl fun K hK=>?_
         go_simp
         refine (KH.out _ ‹_›).mono ?_
         rintro e w6 ⟨rfl,hb6⟩
         refine hK.out _ _ hb6 ?_
         clear hK K hb5
         repeat (first | (refine zS rfl rfl ?_;simp only [Act.put,zq1,zq2,zq3]) | (refine zT rfl ?_ rfl (fun w' hw'=>?_) ?_;rotate_left;(go_simp;first | done | with_reducible rfl);(try simp only [Act.put,zq1,zq2,zq3])))
         refine zN ?_
         go_wp2_with fail
         go_ret
         exact⟨rfl,HF.out _ hb6⟩
        | true =>
         go_enter Tryz.func67,Tryz.ntmps67
         go_wp2_with fail
         rw [← HW.out]
         refine zI [(false,0),(true,1),(false,2),(false,3),(false,4),(false,5),(false,6),(false,7),(false,8),(false,9),(false,10),(false,11),(false,12),(false,13),(false,14),(false,15),(false,16),(false,17),(false,18),(false,19),(false,20),(false,21),(false,22),(false,23),(false,24),(false,25),(false,26),(true,27),(false,28),(false,29),(false,30),(false,31),(false,32),(false,33),(false,34),(false,35),(false,36),(false,37),(false,38),(false,39),(false,40),(false,41),(false,42)] (fun w'=>Below w2.heap.size w2 w') (by kernel_rfl) (by kernel_rfl) h00 ?_
         repeat (first | (refine zS rfl rfl ?_;simp only [Act.put,zq1,zq2,zq3]) | (refine zT rfl ?_ rfl (fun w' hw'=>?_) ?_;rotate_left;(go_simp;first | done | with_reducible rfl);(try simp only [Act.put,zq1,zq2,zq3])))
         refine zA rfl rfl fun K hK=>?_
         go_simp
         refine (KR.out _ ‹_›).mono ?_
         rintro e w5 ⟨rfl,hb5⟩
         refine hK.out _ _ hb5 ?_
         clear hK K h00
         repeat (first | (refine zS rfl rfl ?_;simp only [Act.put,zq1,zq2,zq3]) | (refine zT rfl ?_ rfl (fun w' hw'=>?_) ?_;rotate_left;(go_simp;first | done | with_reducible rfl);(try simp only [Act.put,zq1,zq2,zq3])))
         refine zA rfl rfl fun K hK=>?_
         go_simp
         refine (KH.out _ ‹_›).mono ?_
         rintro e w6 ⟨rfl,hb6⟩
         refine hK.out _ _ hb6 ?_
         clear hK K hb5
         repeat (first | (refine zS rfl rfl ?_;simp only [Act.put,zq1,zq2,zq3]) | (refine zT rfl ?_ rfl (fun w' hw'=>?_) ?_;rotate_left;(go_simp;first | done | with_reducible rfl);(try simp only [Act.put,zq1,zq2,zq3])))
         refine zN ?_
         go_wp2_with fail
         go_ret
         exact⟨rfl,HF.out _ hb6⟩
end
section
open Go.RowKit
theorem run_part_u8 (xs:Array Value) (off:Nat) {v:Value} (hx:xs[off]?=some v) (w:World):(part 5 xs off).run Tryz.prog w = .ok v w:=by
 simp [part,isAgg,run_underlying Tryz.underlying5,hx]
theorem run_equalIn_u8 (d:Nat) (a b:UInt8) (w:World):(Op.equalIn (d+1) 5 (u8 a) (u8 b)).run Tryz.prog w = .ok (decide (a=b)) w:=by
 simp [Op.equalIn,run_underlying Tryz.underlying5,u8]
 by_cases h:a=b
 ·simp [h]
 ·have:¬ ((a.toNat:Int)=(b.toNat:Int)):=fun e=>h (UInt8.toNat_inj.1 (Int.ofNat_inj.1 e))
  simp [h,this]
theorem eqItems_u8 (d:Nat) (x y:List UInt8) (w:World):∀ (is:List Nat),(∀ i∈is,i<x.length∧i<y.length) →
  (Op.eqItems (d+1) 5 1 (u8s x).toArray (u8s y).toArray is).run Tryz.prog w = .ok (decide (∀ i∈is,x[i]?=y[i]?)) w
 | [],_=>by simp [Op.eqItems]
 | i :: is,h=>by
  obtain⟨h1,h2⟩:=h i (List.mem_cons_self ..)
  have e1:(u8s x).toArray[i*1]?=some (u8 x[i]):=by simp [u8s,h1]
  have e2:(u8s y).toArray[i*1]?=some (u8 y[i]):=by simp [u8s,h2]
  have ih:=eqItems_u8 d x y w is (fun j hj=>h j (List.mem_cons_of_mem _ hj))
  unfold Op.eqItems
  simp only [Sem.run_bind,run_part_u8 _ _ e1,run_part_u8 _ _ e2,Result.andThen_ok,run_equalIn_u8]
  by_cases he:x[i]=y[i]
  ·simp [he,ih,List.getElem?_eq_getElem h1,List.getElem?_eq_getElem h2]
  ·simp [he,List.getElem?_eq_getElem h1,List.getElem?_eq_getElem h2]
set_option maxRecDepth 100000 in
theorem equal44_in (d:Nat) {x y:List UInt8} (hx:x.length=64) (hy:y.length=64) (w:World):(Op.equalIn (d+2) 94 (.agg (u8s x).toArray) (.agg (u8s y).toArray)).run Tryz.prog w = .ok (decide (x=y)) w:=by
 obtain⟨i,hi,hs⟩:=Option.map_eq_some_iff.1 (show (Tryz.prog.info? 5).map (fun i=>i.size)=some 1 by kernel_rfl)
 rw [run_equalIn_array (w:=w) (d+1) _ _ Tryz.underlying94 hi,show Tryz.prog.cellsOf 5=1 by kernel_rfl,eqItems_u8 d x y w _ (fun i hi=>by rw [List.mem_range] at hi;omega)]
 congr 1
 by_cases h:x=y
 ·simp [h]
 ·have:¬ ∀ i∈List.range 64,x[i]?=y[i]?:=fun hh=>h (List.ext_getElem? fun i=>by
   by_cases hi:i<64
   ·exact hh i (List.mem_range.2 hi)
   ·rw [List.getElem?_eq_none (by omega),List.getElem?_eq_none (by omega)])
  simp only [h,decide_false]
  exact decide_eq_false this
theorem eqFields_two (d : Nat) (P : Program) (xs ys : Array Value) (f1 f2 : Field) (w : World) (a1 b1 a2 b2 : Value) (r1 r2 : Bool) (h1 : f1.name ≠ "_") (h2 : f2.name ≠ "_")
  (p1:(part f1.type xs f1.offset).run P w = .ok a1 w) (p2:(part f1.type ys f1.offset).run P w = .ok b1 w) (p3:(part f2.type xs f2.offset).run P w = .ok a2 w) (p4:(part f2.type ys f2.offset).run P w = .ok b2 w)
  (q1:(Op.equalIn d f1.type a1 b1).run P w = .ok r1 w) (q2:(Op.equalIn d f2.type a2 b2).run P w = .ok r2 w):(Op.eqFields d xs ys [f1,f2]).run P w = .ok (r1&&r2) w:=by
 simp only [Op.eqFields,if_pos h1,if_pos h2,Sem.run_bind,p1,p2,p3,p4,q1,q2,Result.andThen_ok]
 cases r1 <;> cases r2 <;> simp [p3,p4,q2]
theorem equal44 {x y:List UInt8} (hx:x.length=64) (hy:y.length=64) (w:World):(Op.equalIn 10000 94 (.agg (u8s x).toArray) (.agg (u8s y).toArray)).run Tryz.prog w = .ok (decide (x=y)) w:=equal44_in 9998 hx hy w
end
section
open Go.RowKit WalP PackP
def markV (gen k len sum:Int):Value:=.agg #[.int .i64 gen,.int .i64 k,.int .i64 len,.int .u32 sum]
set_option maxRecDepth 100000 in
set_option maxHeartbeats 1000000 in
theorem of_any {B:Nat} (gen k:Int) (v:Value) (bs:List UInt8) (w:World) (ht:TabAt w) (hT:1<w.heap.size) (hv:Bytes B w v bs) :
  Calls Tryz.prog 109 #[.int .i64 gen,.int .i64 k,v] w fun e w'=>e = .returned (markV gen k bs.length (SumP.toI (SumP.sum bs)))∧Below w.heap.size w w':=by
 have hv:=hv.tight
 have hb:=Below.alloc (Below.refl w.heap.size w) (Nat.le_refl _) (.cells #[.int .i64 0,.int .i64 0,.int .i64 0,.int .u32 0] 145)
 have k1:=sum_any v bs _ _ (ht.below hb hT) (hv.below hb)
 have hb:=Below.alloc (Below.refl w.heap.size w) (Nat.le_refl _) (.cells #[.int .i64 gen,.int .i64 k,.int .i64 bs.length,.int .u32 (SumP.toI (SumP.sum bs))] 145)
 obtain⟨_,a,cap,rfl,_,hcap,_⟩:=hv
 unfold maxLen at hcap
 go_enter Tryz.func109,Tryz.ntmps109
 go_wp2_with fail
 refine k1.mono ?_
 rintro e w' ⟨rfl,rfl⟩
 go_wp2_with fail
 unfold markV
 exact bodyPost_ret (v:=.agg #[.int .i64 gen,.int .i64 k,.int .i64 bs.length,.int .u32 (SumP.toI (SumP.sum bs))]) (by simp [results,Tryz.results109,go_sem]) rfl ⟨rfl,hb⟩
theorem numsB4 (gen k len sum:Int):[(87:UInt8),76,79,71]++numsB [gen,k,len,sum]=markB gen k len sum:=by simp [numsB,markB]
theorem length_markB (gen k len sum:Int):(markB gen k len sum).length=36:=by simp [markB,numB,length_be]
theorem splice_pad (m:List UInt8) (hm:m.length≤64):splice (u8s zeroS) 0 (u8s m)=u8s (pad64 m):=by
 have e:u8s zeroS=List.replicate 64 (.int .u8 0):=by simp [u8s,zeroS,u8]
 have e2:u8s (List.replicate (64-m.length) 0)=List.replicate (64-m.length) (.int .u8 0):=by rw [u8s,List.map_replicate];rfl
 unfold splice pad64
 rw [e,u8s_append,e2,List.take_of_length_le hm,List.drop_replicate,zL,Nat.zero_add]
 rfl
theorem info_u8s:(Tryz.prog.info? 5).map (·.size)=some 1:=by kernel_rfl
theorem row_of_heap {B g:Nat} {w:World} {C:Array Value} {e:TypeId} {fz:Nat×Nat} {sz n cap:Nat} {cs:List Value} (hg:w.heap[g]?=some (.cells C e fz)) (hB:g<B) (hl:cs.length=n*sz) (hnc:n≤cap) (hcap:cap≤maxLen)
  (hC:∀ (k:Nat) (u:Value),cs[k]?=some u→C[k]?=some u):Row B w (.slice (some ⟨g,0,none⟩) n cap) sz n cs :=
 ⟨hl,_,cap,rfl,hnc,hcap,fun _=>⟨g,0,rfl,hB,fun k u hk=>by rw [cR w g (0+k) _ _ _ hg,Nat.zero_add];exact hC k u hk⟩⟩
theorem addp (b off k:Nat):(⟨b,off,none⟩:Addr).add k=⟨b,off+k,none⟩:=by unfold Addr.add;split <;> simp_all
theorem nums_mark (gen k len sum:Int) (gA gB:Nat) (w:World) {fz:Nat×Nat} (hA:w.heap[gA]?=some (.cells #[.int .u8 87,.int .u8 76,.int .u8 79,.int .u8 71] 5 fz)) (hB:w.heap[gB]?=some (.cells #[.int .i64 gen,.int .i64 k,.int .i64 len,.int .i64 sum] 3 (0,0))) :
  Calls Tryz.prog 81 #[.slice (some ⟨gA,0,none⟩) 4 4,.slice (some ⟨gB,0,none⟩) 4 4] w fun e w'=>(∃ ad cap,e = .returned (.slice (some ad) 36 cap)∧∀ j v,(u8s (markB gen k len sum))[j]?=some v→w'.cell? (ad.add j)=some v)∧Below w.heap.size w w':=by
 have h1:Bytes w.heap.size w (.slice (some ⟨gA,0,none⟩) 4 4) [87,76,79,71]:=row_of_heap (sz:=1) (n:=4) hA (zB hA) rfl (Nat.le_refl _) (by decide) (fun k u hk=>by simpa [u8s,u8] using hk)
 have h2:Ints w.heap.size w (.slice (some ⟨gB,0,none⟩) 4 4) [gen,k,len,sum]:=row_of_heap (sz:=1) (n:=4) hB (zB hB) rfl (Nat.le_refl _) (by decide) (fun k u hk=>by simpa using hk)
 refine (num_any _ _ _ _ w h1 h2 (by simp)).mono ?_
 rintro e w' ⟨v',rfl,ho,hb⟩
 rw [numsB4] at ho
 obtain⟨_,a,cap,rfl,_,_,hc⟩:=ho.bytes
 rw [length_markB] at hc ⊢
 obtain⟨b,off,rfl,_,hc⟩:=hc (by omega)
 exact⟨⟨_,cap,rfl,fun j v hj=>by rw [addp];exact hc j v hj⟩,hb⟩
theorem conv_mark {w:World} {g:Nat} {C:Array Value} {e:TypeId} (hg:w.heap[g]?=some (.cells C e (0,0))) (l c:Nat) :
  ∃ w',(convert 23 23 (.slice (some ⟨g,0,none⟩) l c)).run Tryz.prog w = .ok (.slice (some ⟨g,0,none⟩) l c) w'∧w'.heap[g]?=some (.cells C e (C.size,C.size+1))∧Below g w w'∧w'.heap.size=w.heap.size∧∀ k,k≠g→w'.heap[k]?=w.heap[k]?:=by
 have hsh:w.shape? g=some (e,C.size):=by unfold World.shape?;rw [hg]
 have ho:∀ k,k≠g→(w.freeze ⟨g,C.size,none⟩ 1).heap[k]?=w.heap[k]?:=fun k hk=>by
  unfold World.freeze
  rw [if_neg (by decide)]
  simp only [Array.getElem?_modify]
  rw [if_neg (fun h=>hk h.symm)]
 refine⟨w.freeze ⟨g,C.size,none⟩ 1,by simp [convert,run_underlying Tryz.underlying23,run_underlying Tryz.underlying5,markStringish,hsh],?_,⟨rfl,rfl,rfl,by simp [World.freeze],fun k hk=>ho k (by omega)⟩,by simp [World.freeze],ho⟩
 unfold World.freeze
 rw [if_neg (by decide)]
 simp only [Array.getElem?_modify,hg]
 rfl
set_option maxRecDepth 100000 in
set_option maxHeartbeats 2000000 in
theorem sector_any (gen k len sum:Int) (w:World) (hs0:0≤sum) (hs1:sum<2^32) :
  Calls Tryz.prog 110 #[markV gen k len sum] w fun e w'=>e = .returned (.agg (u8s (markS gen k len sum)).toArray)∧Below w.heap.size w w':=by
 obtain⟨z,hz,hzr⟩:=zero44
 obtain⟨w1,hw1⟩:∃ w1,w1=w.alloc (.cells #[.int .i64 gen,.int .i64 k,.int .i64 len,.int .u32 sum] 145):=⟨_,rfl⟩
 obtain⟨w2,hw2⟩:∃ w2,w2=w1.alloc (.cells z.cells 94):=⟨_,rfl⟩
 have hs1:w1.heap.size=w.heap.size+1:=by rw [hw1];simp
 have hb1:Below w.heap.size w w1:=by rw [hw1];exact Below.alloc (Below.refl _ _) (Nat.le_refl _) _
 have hb2:Below w1.heap.size w1 w2:=by rw [hw2];exact Below.alloc (Below.refl _ _) (Nat.le_refl _) _
 have G1:w2.heap[w.heap.size]?=some (.cells #[.int .i64 gen,.int .i64 k,.int .i64 len,.int .u32 sum] 145 (0,0)):=(hb2.block _ (by omega)).trans (by rw [hw1];exact heap_alloc_new w _)
 have G2:w2.heap[w1.heap.size]?=some (.cells (u8s zeroS).toArray 94 (0,0)):=by rw [hw2,← hz];exact heap_alloc_new w1 _
 rw [hs1] at G2
 have hB:Below w.heap.size w w2:=hb1.trans (hb2.mono hb1.size)
 have HW1:=zh hw1
 have HW2:=zh hw2
 have HZ:=zh hzr
 clear hw1 hw2 hb1 hb2 hz hzr
 unfold markV
 go_enter Tryz.func110,Tryz.ntmps110
 go_wp2_with (refine wp_alloc_to (w':=w2) 94 rfl rfl (HZ.out _) ?_ ?_;(rw [← HW1.out];exact HW2.out);refine Halt.in ?_)
 refine Halt.out ?_
 clear HW1 HW2 HZ
 go_upto_region 1 with (fail)
 go_cut [] from 3 to 17 (fun wx=>Below w.heap.size w wx∧wx.heap[w.heap.size+1]?=some (.cells (u8s (markS gen k len sum)).toArray 94 (0,0)))
 case first =>
  have hG1:∀ w',Below (w.heap.size+1) w2 w'→w'.heap[w.heap.size]?=_:=fun w' hb=>(hb.block _ (by omega)).trans G1
  have hA0:∀ w',Below (w.heap.size+1) w2 w'→_:=fun w' hb=>cR w' _ 0 _ _ _ (hG1 w' hb)
  have hA1:∀ w',Below (w.heap.size+1) w2 w'→_:=fun w' hb=>cR w' _ 1 _ _ _ (hG1 w' hb)
  have hA2:∀ w',Below (w.heap.size+1) w2 w'→_:=fun w' hb=>cR w' _ 2 _ _ _ (hG1 w' hb)
  have hA3:∀ w',Below (w.heap.size+1) w2 w'→_:=fun w' hb=>cR w' _ 3 _ _ _ (hG1 w' hb)
  have hle:w.heap.size+1≤w2.heap.size:=Nat.le_of_lt (zB G2)
  have hws:IntKind.i64.wrap sum=sum:=by
   simp only [IntKind.wrap,IntKind.bits,IntKind.signed]
   simp
   omega
  have h00:Below w2.heap.size w2 w2.drew:=zD (Below.refl _ _) 1
  have HGG:=zh G1
  clear hG1 G1
  refine wp_region_start (fun w'=>Below (w.heap.size+1) w2 w') (by kernel_rfl) (h00.mono hle) ?_
  refine wpAnyH_part [(false,0),(false,3),(false,4),(false,5),(false,6),(false,7),(false,8),(false,9),(false,10),(false,11)] (by kernel_rfl) (h00.mono hle) ?_
  repeat (first | (refine zS rfl rfl ?_;simp only [Act.put,zq1,zq2,zq3]) | (refine zT rfl ?_ rfl (fun w' hw'=>?_) ?_;rotate_left;(go_simp;first | done | with_reducible rfl);(try simp only [Act.put,zq1,zq2,zq3])))
  refine zN ?_
  refine wpAnyH_ready (rs:=[1,12]) (by kernel_rfl) (by simp) ?_
  refine zR rfl rfl (fun K hK=>?_) (zR rfl rfl (fun K hK=>?_) AllReadyH.nil)
  ·go_simp
   have hS3:Below w2.heap.size w2 (w2.alloc (.cells #[.int .u8 87,.int .u8 76,.int .u8 79,.int .u8 71] 5)).drew:=((Below.refl _ _).alloc (Nat.le_refl _) _).drew
   refine hK.out _ _ (hS3.mono hle) ?_
   clear hK K
   have hA3:(w2.alloc (.cells #[.int .u8 87,.int .u8 76,.int .u8 79,.int .u8 71] 5)).drew.heap[w2.heap.size]?=some (.cells #[.int .u8 87,.int .u8 76,.int .u8 79,.int .u8 71] 5 (0,0)):=heap_alloc_new w2 _
   obtain⟨w3,hww3⟩:∃ x,x=(w2.alloc (.cells #[.int .u8 87,.int .u8 76,.int .u8 79,.int .u8 71] 5)).drew:=⟨_,rfl⟩
   rw [← hww3] at hS3 hA3 ⊢
   clear hww3
   have hgA:w2.heap.size≤w2.heap.size:=Nat.le_refl _
   refine wpAnyH_ready (rs:=[2,12]) (by kernel_rfl) (by simp) ?_
   refine zR rfl rfl (fun K hK=>?_) (zR rfl rfl (fun K hK=>?_) AllReadyH.nil)
   ·obtain⟨w4,hcv,hA4,hb4,hs4,ho4⟩:=conv_mark hA3 4 4
    have hS4:Below w2.heap.size w2 w4:=hS3.trans (hb4.mono hgA)
    clear hs4 ho4
    go_simp
    refine hK.out _ _ (hS4.mono hle) ?_
    clear hK K hcv
    refine wpAnyH_end [(true,12),(true,13),(true,14)] (by kernel_rfl) (hS4.mono hle) ?_
    refine zA rfl rfl fun K hK=>?_
    go_simp
    have hS5:Below w2.heap.size w2 (w4.alloc (.cells #[.int .i64 gen,.int .i64 k,.int .i64 len,.int .i64 sum] 3)):=hS4.alloc hS4.size _
    refine hK.out _ _ (hS5.mono hle) ?_
    clear hK K
    have hB5:(w4.alloc (.cells #[.int .i64 gen,.int .i64 k,.int .i64 len,.int .i64 sum] 3)).heap[w4.heap.size]?=some (.cells #[.int .i64 gen,.int .i64 k,.int .i64 len,.int .i64 sum] 3 (0,0)):=heap_alloc_new w4 _
    have hA5:=((Below.alloc (Below.refl w4.heap.size w4) (Nat.le_refl _) (.cells #[.int .i64 gen,.int .i64 k,.int .i64 len,.int .i64 sum] 3)).block _ (zB hA4)).trans hA4
    obtain⟨w5,hww5⟩:∃ x,x=(w4.alloc (.cells #[.int .i64 gen,.int .i64 k,.int .i64 len,.int .i64 sum] 3)):=⟨_,rfl⟩
    rw [← hww5] at hS5 hB5 hA5 ⊢
    clear hww5
    have k1:=nums_mark gen k len sum _ _ w5 hA5 hB5
    refine zA rfl rfl fun K hK=>?_
    go_simp
    refine k1.mono ?_
    rintro e w8 ⟨⟨ad,cap,rfl,hcs⟩,hb8⟩
    have hS8:=hS5.trans (hb8.mono hS5.size)
    refine hK.out _ _ (hS8.mono hle) ?_
    clear hK K
    have hG8:=(hS8.block _ (zB G2)).trans G2
    refine zA rfl rfl fun K hK=>?_
    refine op_copy rfl (.tmp 3) (.tmp 16) 23 23 rfl 5 Tryz.underlying23 info_u8s _ _ 64 64 36 cap rfl rfl (w.heap.size+1) 0 (u8s zeroS) _ hG8 (u8s (markB gen k len sum)) (by rw [zL,length_markB];rfl) (fun _=>⟨rfl,ad,rfl,hcs⟩) (by rw [zL,zL,length_markB];decide) (oneCell_u8s _) ?_
    intro w9 hG9 hb9 hs9 ho9
    rw [splice_pad _ (by rw [length_markB];omega)] at hG9
    have hB9:Below w.heap.size w w9:=(hB.trans (hS8.mono hB.size)).trans (hb9.mono (by omega))
    refine hK.out _ _ ((hS8.mono hle).trans hb9) ?_
    clear hK K hS8 hb8 k1 hb9
    refine zN ?_
    go_wp2_with fail
    go_meet
    case rel=>exact⟨hB9,hG9⟩
   ·go_simp
    have hS4:Below w2.heap.size w2 (w3.alloc (.cells #[.int .i64 gen,.int .i64 k,.int .i64 len,.int .i64 sum] 3)):=hS3.alloc hS3.size _
    refine hK.out _ _ (hS4.mono hle) ?_
    clear hK K
    have hB4:(w3.alloc (.cells #[.int .i64 gen,.int .i64 k,.int .i64 len,.int .i64 sum] 3)).heap[w3.heap.size]?=some (.cells #[.int .i64 gen,.int .i64 k,.int .i64 len,.int .i64 sum] 3 (0,0)):=heap_alloc_new w3 _
    have hA4:=((Below.alloc (Below.refl w3.heap.size w3) (Nat.le_refl _) (.cells #[.int .i64 gen,.int .i64 k,.int .i64 len,.int .i64 sum] 3)).block _ (zB hA3)).trans hA3
    obtain⟨w4,hww4⟩:∃ x,x=(w3.alloc (.cells #[.int .i64 gen,.int .i64 k,.int .i64 len,.int .i64 sum] 3)):=⟨_,rfl⟩
    rw [← hww4] at hS4 hB4 hA4 ⊢
    clear hww4
    have hne:w3.heap.size≠w2.heap.size:=by have:=zB hA3;omega
    refine wpAnyH_end [(true,2),(true,13),(true,14)] (by kernel_rfl) (hS4.mono hle) ?_
    refine zA rfl rfl fun K hK=>?_
    obtain⟨w5,hcv,hA5,hb5,hs5,ho5⟩:=conv_mark hA4 4 4
    have hS5:Below w2.heap.size w2 w5:=hS4.trans (hb5.mono hgA)
    have hB5:=(ho5 _ hne).trans hB4
    clear hs5 ho5
    go_simp
    refine hK.out _ _ (hS5.mono hle) ?_
    clear hK K hcv
    have k1:=nums_mark gen k len sum _ _ w5 hA5 hB5
    refine zA rfl rfl fun K hK=>?_
    go_simp
    refine k1.mono ?_
    rintro e w8 ⟨⟨ad,cap,rfl,hcs⟩,hb8⟩
    have hS8:=hS5.trans (hb8.mono hS5.size)
    refine hK.out _ _ (hS8.mono hle) ?_
    clear hK K
    have hG8:=(hS8.block _ (zB G2)).trans G2
    refine zA rfl rfl fun K hK=>?_
    refine op_copy rfl (.tmp 3) (.tmp 16) 23 23 rfl 5 Tryz.underlying23 info_u8s _ _ 64 64 36 cap rfl rfl (w.heap.size+1) 0 (u8s zeroS) _ hG8 (u8s (markB gen k len sum)) (by rw [zL,length_markB];rfl) (fun _=>⟨rfl,ad,rfl,hcs⟩) (by rw [zL,zL,length_markB];decide) (oneCell_u8s _) ?_
    intro w9 hG9 hb9 hs9 ho9
    rw [splice_pad _ (by rw [length_markB];omega)] at hG9
    have hB9:Below w.heap.size w w9:=(hB.trans (hS8.mono hB.size)).trans (hb9.mono (by omega))
    refine hK.out _ _ ((hS8.mono hle).trans hb9) ?_
    clear hK K hS8 hb8 k1 hb9
    refine zN ?_
    go_wp2_with fail
    go_meet
    case rel=>exact⟨hB9,hG9⟩
  ·go_simp
   have hS3:Below w2.heap.size w2 (w2.alloc (.cells #[.int .i64 gen,.int .i64 k,.int .i64 len,.int .i64 sum] 3)).drew:=((Below.refl _ _).alloc (Nat.le_refl _) _).drew
   refine hK.out _ _ (hS3.mono hle) ?_
   clear hK K
   have hB3:(w2.alloc (.cells #[.int .i64 gen,.int .i64 k,.int .i64 len,.int .i64 sum] 3)).drew.heap[w2.heap.size]?=some (.cells #[.int .i64 gen,.int .i64 k,.int .i64 len,.int .i64 sum] 3 (0,0)):=heap_alloc_new w2 _
   obtain⟨w3,hww3⟩:∃ x,x=(w2.alloc (.cells #[.int .i64 gen,.int .i64 k,.int .i64 len,.int .i64 sum] 3)).drew:=⟨_,rfl⟩
   rw [← hww3] at hS3 hB3 ⊢
   clear hww3
   refine wpAnyH_end [(true,1),(true,2),(true,13),(true,14)] (by kernel_rfl) (hS3.mono hle) ?_
   refine zA rfl rfl fun K hK=>?_
   go_simp
   have hS4:Below w2.heap.size w2 (w3.alloc (.cells #[.int .u8 87,.int .u8 76,.int .u8 79,.int .u8 71] 5)):=hS3.alloc hS3.size _
   refine hK.out _ _ (hS4.mono hle) ?_
   clear hK K
   have hA4:(w3.alloc (.cells #[.int .u8 87,.int .u8 76,.int .u8 79,.int .u8 71] 5)).heap[w3.heap.size]?=some (.cells #[.int .u8 87,.int .u8 76,.int .u8 79,.int .u8 71] 5 (0,0)):=heap_alloc_new w3 _
   have hB4:=((Below.alloc (Below.refl w3.heap.size w3) (Nat.le_refl _) (.cells #[.int .u8 87,.int .u8 76,.int .u8 79,.int .u8 71] 5)).block _ (zB hB3)).trans hB3
   obtain⟨w4,hww4⟩:∃ x,x=(w3.alloc (.cells #[.int .u8 87,.int .u8 76,.int .u8 79,.int .u8 71] 5)):=⟨_,rfl⟩
   rw [← hww4] at hS4 hA4 hB4 ⊢
   clear hww4
   have hgA:w2.heap.size≤w3.heap.size:=by have:=zB hB3;omega
   have hne:w2.heap.size≠w3.heap.size:=by have:=zB hB3;omega
   refine zA rfl rfl fun K hK=>?_
   obtain⟨w5,hcv,hA5,hb5,hs5,ho5⟩:=conv_mark hA4 4 4
   have hS5:Below w2.heap.size w2 w5:=hS4.trans (hb5.mono hgA)
   have hB5:=(ho5 _ hne).trans hB4
   clear hs5 ho5
   go_simp
   refine hK.out _ _ (hS5.mono hle) ?_
   clear hK K hcv
   have k1:=nums_mark gen k len sum _ _ w5 hA5 hB5
   refine zA rfl rfl fun K hK=>?_
   go_simp
   refine k1.mono ?_
   rintro e w8 ⟨⟨ad,cap,rfl,hcs⟩,hb8⟩
   have hS8:=hS5.trans (hb8.mono hS5.size)
   refine hK.out _ _ (hS8.mono hle) ?_
   clear hK K
   have hG8:=(hS8.block _ (zB G2)).trans G2
   refine zA rfl rfl fun K hK=>?_
   refine op_copy rfl (.tmp 3) (.tmp 16) 23 23 rfl 5 Tryz.underlying23 info_u8s _ _ 64 64 36 cap rfl rfl (w.heap.size+1) 0 (u8s zeroS) _ hG8 (u8s (markB gen k len sum)) (by rw [zL,length_markB];rfl) (fun _=>⟨rfl,ad,rfl,hcs⟩) (by rw [zL,zL,length_markB];decide) (oneCell_u8s _) ?_
   intro w9 hG9 hb9 hs9 ho9
   rw [splice_pad _ (by rw [length_markB];omega)] at hG9
   have hB9:Below w.heap.size w w9:=(hB.trans (hS8.mono hB.size)).trans (hb9.mono (by omega))
   refine hK.out _ _ ((hS8.mono hle).trans hb9) ?_
   clear hK K hS8 hb8 k1 hb9
   refine zN ?_
   go_wp2_with fail
   go_meet
   case rel=>exact⟨hB9,hG9⟩
 case rest =>
  obtain⟨hb,hrow⟩:=hcut
  obtain⟨X,hX⟩:∃ X,X=(u8s (markS gen k len sum)).toArray:=⟨_,rfl⟩
  rw [← hX] at hrow
  have HX:=zh hX
  have hXs:X.size=64:=by rw [hX];simp [zL,length_markS]
  have hX1:∀ v∈X.toList,v.oneCell'=true:=by rw [hX];exact oneCell_u8s _
  obtain⟨i44,hi44,hs44⟩:=info44
  have hld:=run_load_big (P:=Tryz.prog) (t:=94) Tryz.underlying94 (.inl ⟨_,_,rfl⟩) hi44 (w:=wc) (b:=w.heap.size+1) (off:=0) (cs:=X.toList) hs44 (by simpa using hXs)
   (fun j u hj=>by rw [cR wc _ (0+j) _ _ _ hrow];simpa using hj)
  simp only [Array.toArray_toList] at hld
  obtain⟨w9,hst,hrow9,hb9,_,_,_⟩:=store64 hrow hXs X hXs hX1
  have hbb:=hb.trans (hb9.mono (Nat.le_succ _))
  have HS:=zh (show (Tryz.prog.info? 94).map (·.size)=some X.size by rw [hi44,hXs];simp [hs44])
  have HROW:=zh hrow9
  clear hX hXs hX1 hi44 hs44 hrow9 hb9 hrow
  go_wp2_with (refine wp_load_at (.tmp 2) 94 rfl rfl rfl hld ?_;refine Halt.in ?_)
  refine Halt.out ?_
  clear hld
  go_wp2_with (refine wp_store_at (.tmp 2) (.tmp 18) 94 rfl rfl rfl rfl hst ?_;refine Halt.in ?_)
  refine Halt.out ?_
  clear hst
  go_wp2_with fail
  exact bodyPost_ret (results_cell_row rfl _ _ (w.heap.size+1) _ _ _ _ rfl HROW.out Tryz.underlying94 rfl HS.out) rfl ⟨by rw [HX.out],hbb⟩
end
section
open Go.RowKit WalP PackP
def HandAt (g:Nat) (w:World) (d:DiskP):Prop:=∃ A,w.heap[g]?=some (.cells A 174 (0,0))∧DiskV w.heap.size w (.agg A) d∧DSl (·≠g) (.agg A)
def hEnd (e:Int):Ending:=if e=0 then .returned (.tuple #[]) else .panicked [{ v:=.iface 26 (.int .i64 e),recovered:=false }]
theorem hEnd0 {e:Int} (h:e=0):hEnd e = .returned (.tuple #[]):=by unfold hEnd;rw [if_pos h]
theorem hEnd1 {e:Int} (h:e≠0):hEnd e = .panicked [{ v:=.iface 26 (.int .i64 e),recovered:=false }]:=by unfold hEnd;rw [if_neg h]
theorem DiskV.only {B g:Nat} {w w':World} {v:Value} {d:DiskP} (h:DiskV B w v d) (hB:B≤w.heap.size) (hs:DSl (·≠g) v) (ho:w.grownBy w' (some g)):DiskV B w' v d:=by
 have one:∀ {sz n:Nat} {cs:List Value} {u:Value},Row B w u sz n cs→Sl (·≠g) u→Row B w' u sz n cs:=fun {sz n cs u} h hs=>by
  obtain⟨hl,a,cap,rfl,h1,h2,h3⟩:=h
  refine⟨hl,a,cap,rfl,h1,h2,fun hp=>?_⟩
  obtain⟨b,off,rfl,hb,hc⟩:=h3 hp
  have:=hs _ _ _ rfl hp
  refine⟨b,off,rfl,hb,fun k u' hk=>?_⟩
  have e:w'.cell? ⟨b,off+k,none⟩=w.cell? ⟨b,off+k,none⟩:=by unfold World.cell?;rw [ho.block b (by omega) (fun h=>this (Option.some.inj h))]
  exact e.trans (hc k u' hk)
 obtain⟨sv,lv,rfl,h1,h2⟩:=h
 obtain⟨q1,q2⟩:=hs _ _ _ _ rfl
 exact⟨sv,lv,rfl,⟨h1.1,one h1.2 q1⟩,⟨h2.1,one h2.2 q2⟩⟩
theorem HandAt.below {g:Nat} {w w':World} {d:DiskP} (h:HandAt g w d) (hb:Below w.heap.size w w'):HandAt g w' d:=by
 obtain⟨A,h1,h2,h3⟩:=h
 exact⟨A,(hb.block _ (zB h1)).trans h1,(h2.below hb).tight,h3⟩
theorem only_of_below {g:Nat} {w w':World} (hb:Below w.heap.size w w'):w.grownBy w' (some g):=⟨hb.os,hb.tape,hb.output,hb.size,fun k hk _=>hb.block k hk⟩
theorem put4_diskV {B g:Nat} {w:World} {v:Value} {d:DiskP} (h:DiskV B w v d) (hs:DSl (·≠g) v) (a b c e:Value):DiskV B (put4 w g a b c e) v d :=
 (((h.setFar (p:=⟨g,0,none⟩) hs a).setFar (p:=⟨g,1,none⟩) hs b).setFar (p:=⟨g,2,none⟩) hs c).setFar (p:=⟨g,3,none⟩) hs e
theorem put4_only {g:Nat} (w:World) (a b c d:Value):w.grownBy (put4 w g a b c d) (some g):=by
 have:=put4_below (Below.refl g w) (Nat.le_refl _) a b c d
 refine⟨this.os,this.tape,this.output,this.size,fun k _ hk2=>?_⟩
 have hk2:g≠k:=fun h=>hk2 (by rw [h])
 unfold put4
 rw [setFar hk2,setFar hk2,setFar hk2,setFar hk2]
set_option maxRecDepth 100000 in
set_option maxHeartbeats 1000000 in
theorem must_any {B g:Nat} (v:Value) (d0 d:DiskP) (e:Int) (w:World) (hh:HandAt g w d0) (hd:DiskV B w v d) (hs:DSl (·≠g) v) :
  Calls Tryz.prog 141 #[.pointer (some ⟨g,0,none⟩),v,.int .i64 e] w fun x w'=>x=hEnd e∧HandAt g w' d∧w.grownBy w' (some g):=by
 have hd:=hd.tight
 obtain⟨A,hg,hd0,hs0⟩:=hh
 obtain⟨p1,q1,p2,q2,hA,_,_⟩:=hd0.parts
 cases hA
 obtain⟨x1,y1,x2,y2,rfl,_,_⟩:=hd.parts
 obtain⟨w1,hw1⟩:∃ w1,w1=w.alloc (.cells #[.slice x1 d.secs.length y1,.slice x2 d.loose.length y2,.int .i64 d.fuse,.bool d.down] 38):=⟨_,rfl⟩
 have hb1:Below w.heap.size w w1:=by rw [hw1];exact Below.alloc (Below.refl _ _) (Nat.le_refl _) _
 have hG1:=(hb1.block _ (zB hg)).trans hg
 have C0:=cR w1 _ 0 _ _ _ hG1
 have C1:=cR w1 _ 1 _ _ _ hG1
 have C2:=cR w1 _ 2 _ _ _ hG1
 have C3:=cR w1 _ 3 _ _ _ hG1
 have Z:=zF hG1
 have hX:w1.heap[w.heap.size]?=some (.cells #[.slice x1 d.secs.length y1,.slice x2 d.loose.length y2,.int .i64 d.fuse,.bool d.down] 38 (0,0)):=by rw [hw1];exact heap_alloc_new w _
 have D0:=cR w1 _ 0 _ _ _ hX
 have D1:=cR w1 _ 1 _ _ _ hX
 have D2:=cR w1 _ 2 _ _ _ hX
 have D3:=cR w1 _ 3 _ _ _ hX
 have hfin:HandAt g (put4 w1 g (.slice x1 d.secs.length y1) (.slice x2 d.loose.length y2) (.int .i64 d.fuse) (.bool d.down)) d :=
  ⟨_,put4_heap hG1 _ _ _ _,by
   have h1:=put4_diskV ((hd.below hb1).tight) hs (.slice x1 d.secs.length y1) (.slice x2 d.loose.length y2) (.int .i64 d.fuse) (.bool d.down)
   simpa [put4,World.setCell] using h1,hs⟩
 have hfr:w.grownBy (put4 w1 g (.slice x1 d.secs.length y1) (.slice x2 d.loose.length y2) (.int .i64 d.fuse) (.bool d.down)) (some g):=zO (only_of_below hb1) (put4_only _ _ _ _ _)
 have HFIN:=zh hfin
 have HFR:=zh hfr
 have HW1:=zh hw1
 clear hfin hfr hG1 hX hb1 hg hd hd0 hw1
 by_cases he:e=0
 ·subst he
  rw [hEnd0 rfl]
  go_enter Tryz.func141,Tryz.ntmps141
  go_upto_region 1 with (fail)
  rw [← HW1.out]
  go_wp2_with fail
  go_end0
  exact⟨rfl,HFIN.out,HFR.out⟩
 ·rw [hEnd1 he]
  have hne:(e != 0)=true:=by rw [bne_iff_ne];exact he
  clear he
  go_enter Tryz.func141,Tryz.ntmps141
  go_upto_region 1 with (fail)
  rw [← HW1.out]
  go_wp2_with fail
  exact⟨rfl,rfl,HFIN.out,HFR.out⟩
theorem HandAt.parts {g:Nat} {w:World} {d:DiskP} (h:HandAt g w d):∃ p1 q1 p2 q2,w.heap[g]?=some (.cells #[.slice p1 d.secs.length q1,.slice p2 d.loose.length q2,.int .i64 d.fuse,.bool d.down] 174 (0,0))∧DiskV w.heap.size w (.agg #[.slice p1 d.secs.length q1,.slice p2 d.loose.length q2,.int .i64 d.fuse,.bool d.down]) d∧DSl (·≠g) (.agg #[.slice p1 d.secs.length q1,.slice p2 d.loose.length q2,.int .i64 d.fuse,.bool d.down]):=by
 obtain⟨A,hg,hd,hs⟩:=h
 obtain⟨p1,q1,p2,q2,hA,_,_⟩:=hd.parts
 cases hA
 exact⟨p1,q1,p2,q2,hg,hd,hs⟩
set_option maxRecDepth 100000 in
set_option maxHeartbeats 2000000 in
theorem hput_any {g:Nat} (d:DiskP) (at_:Int) (s:List UInt8) (w:World) (hh:HandAt g w d) (h64:s.length=64) :
  Calls Tryz.prog 99 #[.pointer (some ⟨g,0,none⟩),.int .i64 at_,.agg (u8s s).toArray] w fun x w'=>x=hEnd (deed d (.put at_ s)).2∧HandAt g w' (deed d (.put at_ s)).1∧w.grownBy w' (some g):=by
 obtain⟨X,hX⟩:∃ X,X=(u8s s).toArray:=⟨_,rfl⟩
 have hXs:X.size=64:=by rw [hX];simp [zL,h64]
 obtain⟨w1,hw1⟩:∃ w1,w1=w.alloc (.cells X 94):=⟨_,rfl⟩
 have hb1:Below w.heap.size w w1:=by rw [hw1];exact Below.alloc (Below.refl _ _) (Nat.le_refl _) _
 have hXr:w1.heap[w.heap.size]?=some (.cells X 94 (0,0)):=by rw [hw1];exact heap_alloc_new w _
 have hh1:=hh.below hb1
 obtain⟨p1,q1,p2,q2,hg,hd,hs⟩:=hh1.parts
 have C0:=cR w1 _ 0 _ _ _ hg
 have C1:=cR w1 _ 1 _ _ _ hg
 have C2:=cR w1 _ 2 _ _ _ hg
 have C3:=cR w1 _ 3 _ _ _ hg
 obtain⟨i44,hi44,hs44⟩:=info44
 have hld:=run_load_big (P:=Tryz.prog) (t:=94) Tryz.underlying94 (.inl ⟨_,_,rfl⟩) hi44 (w:=w1.drew) (b:=w.heap.size) (off:=0) (cs:=X.toList) hs44 (by simpa using hXs)
  (fun j u hj=>by
   show w1.cell? _=_
   rw [cR w1 _ (0+j) _ _ _ hXr];simpa using hj)
 simp only [Array.toArray_toList] at hld
 have k1:=put_any _ d at_ s w1.drew (show DiskV w1.heap.size w1.drew _ d from hd.below (zD (Below.refl _ _) 1)) h64 (·≠g) hs (fun b hb=>by show b≠g;have:w1.drew.heap.size=w1.heap.size:=rfl;have:=zB hg;omega)
 have k2:∀ (v:Value) (w2:World) (hb:Below w1.drew.heap.size w1.drew w2) (hd2:DiskV w2.heap.size w2 v (putP d at_ s).1) (hs2:DSl (·≠g) v),Calls Tryz.prog 141 #[.pointer (some ⟨g,0,none⟩),v,.int .i64 (putP d at_ s).2] w2 fun x w'=>x=hEnd (putP d at_ s).2∧HandAt g w' (putP d at_ s).1∧w.grownBy w' (some g):=fun v w2 hb hd2 hs2 =>
  (must_any v d (putP d at_ s).1 (putP d at_ s).2 w2 (hh1.below ((zD (Below.refl _ _) 1).trans hb)) hd2 hs2).mono fun x w' hx=>⟨hx.1,hx.2.1,zO (zO (only_of_below hb1) (only_of_below ((zD (Below.refl _ _) 1).trans hb))) hx.2.2⟩
 show Calls _ _ _ _ fun x w'=>x=hEnd (putP d at_ s).2∧HandAt g w' (putP d at_ s).1∧w.grownBy w' (some g)
 obtain⟨r,hr⟩:∃ r,r=putP d at_ s:=⟨_,rfl⟩
 rw [← hr] at k1
 simp only [← hr] at k2
 rw [← hX] at k1 ⊢
 rw [← hr]
 have K2:=zh k2
 have HW1:=zh hw1
 clear hr hX hXs hi44 hs44 k2 hXr hb1 hh hh1 hd hs hg hw1
 go_enter Tryz.func99,Tryz.ntmps99
 go_upto_region 1 with (fail)
 rw [← HW1.out]
 refine wp_region_startQ (fun _=>True) (by kernel_rfl) trivial ?_
 refine wpAnyH_partQ [(false,0),(false,1),(false,2),(false,3),(false,5)] (by kernel_rfl) (fun _ d _ _ _ h=>by cases d <;> exact h) trivial ?_
 repeat (first | (refine zS rfl rfl ?_;simp only [Act.put,zq1,zq2,zq3]) | (refine zT rfl ?_ rfl (fun w' hw'=>?_) ?_;rotate_left;(go_simp;first | done | with_reducible rfl);(try simp only [Act.put,zq1,zq2,zq3])))
 refine zN ?_
 refine wpAnyH_ready (rs:=[4,6]) (by kernel_rfl) (by simp) ?_
 refine zR rfl rfl (fun K hK=>?_) (zR rfl rfl (fun K hK=>?_) AllReadyH.nil)
 ·go_simp
  refine hK.out _ _ trivial ?_
  clear hK K
  refine wpAnyH_endQ [(true,6),(true,7),(false,8),(false,9),(true,10)] (by kernel_rfl) (fun _ d _ _ _ h=>by cases d <;> exact h) trivial ?_
  refine zA rfl rfl fun K hK=>?_
  refine op_load (.tmp 5) 94 rfl rfl hld ?_
  refine hK.out _ _ trivial ?_
  clear hK K hld C0 C1 C2 C3
  simp only [Act.put,zq1,zq2,zq3]
  refine zA rfl rfl fun K hK=>?_
  go_simp
  refine k1.mono ?_
  rintro e w2 ⟨⟨v',rfl,hd',hs'⟩,hb2⟩
  refine hK.out _ _ trivial ?_
  clear hK K k1
  repeat (first | (refine zS rfl rfl ?_;simp only [Act.put,zq1,zq2,zq3]) | (refine zT rfl ?_ rfl (fun w' hw'=>?_) ?_;rotate_left;(go_simp;first | done | with_reducible rfl);(try simp only [Act.put,zq1,zq2,zq3])))
  have k2:=K2.out v' w2 hb2 hd' hs'
  refine zA rfl rfl fun K hK=>?_
  go_simp
  refine k2.mono ?_
  rintro e w3 ⟨rfl,hh3,ho3⟩
  by_cases he:r.2=0
  ·have e0:=hEnd0 he
   rw [e0]
   refine hK.out _ _ trivial ?_
   have HE:=zh e0
   have HH:=zh hh3
   clear hK K k2 he e0 hh3
   refine zN ?_
   go_wp2_with fail
   go_end0
   exact⟨HE.out.symm,HH.out,ho3⟩
  ·have e0:=hEnd1 he
   rw [e0]
   exact⟨rfl,e0.symm,hh3,ho3⟩
 ·refine op_load (.tmp 5) 94 rfl rfl hld ?_
  refine hK.out _ _ trivial ?_
  clear hK K hld
  simp only [Act.put,zq1,zq2,zq3]
  refine wpAnyH_endQ [(true,4),(true,7),(false,8),(false,9),(true,10)] (by kernel_rfl) (fun _ d _ _ _ h=>by cases d <;> exact h) trivial ?_
  refine zA rfl rfl fun K hK=>?_
  go_simp
  refine hK.out _ _ trivial ?_
  clear hK K C0 C1 C2 C3
  refine zA rfl rfl fun K hK=>?_
  go_simp
  refine k1.mono ?_
  rintro e w2 ⟨⟨v',rfl,hd',hs'⟩,hb2⟩
  refine hK.out _ _ trivial ?_
  clear hK K k1
  repeat (first | (refine zS rfl rfl ?_;simp only [Act.put,zq1,zq2,zq3]) | (refine zT rfl ?_ rfl (fun w' hw'=>?_) ?_;rotate_left;(go_simp;first | done | with_reducible rfl);(try simp only [Act.put,zq1,zq2,zq3])))
  have k2:=K2.out v' w2 hb2 hd' hs'
  refine zA rfl rfl fun K hK=>?_
  go_simp
  refine k2.mono ?_
  rintro e w3 ⟨rfl,hh3,ho3⟩
  by_cases he:r.2=0
  ·have e0:=hEnd0 he
   rw [e0]
   refine hK.out _ _ trivial ?_
   have HE:=zh e0
   have HH:=zh hh3
   clear hK K k2 he e0 hh3
   refine zN ?_
   go_wp2_with fail
   go_end0
   exact⟨HE.out.symm,HH.out,ho3⟩
  ·have e0:=hEnd1 he
   rw [e0]
   exact⟨rfl,e0.symm,hh3,ho3⟩
set_option maxRecDepth 100000 in
set_option maxHeartbeats 2000000 in
theorem hflush_any {g:Nat} (d:DiskP) (w:World) (hh:HandAt g w d) :
  Calls Tryz.prog 108 #[.pointer (some ⟨g,0,none⟩)] w fun x w'=>x=hEnd (deed d .flush).2∧HandAt g w' (deed d .flush).1∧w.grownBy w' (some g):=by
 obtain⟨p1,q1,p2,q2,hg,hd,hs⟩:=hh.parts
 have C0:=cR w _ 0 _ _ _ hg
 have C1:=cR w _ 1 _ _ _ hg
 have C2:=cR w _ 2 _ _ _ hg
 have C3:=cR w _ 3 _ _ _ hg
 have k1:=flush_any _ d w hd (·≠g) hs (fun b hb=>by show b≠g;have:=zB hg;omega)
 have k2:∀ (v:Value) (w2:World) (hb:Below w.heap.size w w2) (hd2:DiskV w2.heap.size w2 v (flushP d).1) (hs2:DSl (·≠g) v),Calls Tryz.prog 141 #[.pointer (some ⟨g,0,none⟩),v,.int .i64 (flushP d).2] w2 fun x w'=>x=hEnd (flushP d).2∧HandAt g w' (flushP d).1∧w.grownBy w' (some g):=fun v w2 hb hd2 hs2 =>
  (must_any v d (flushP d).1 (flushP d).2 w2 (hh.below hb) hd2 hs2).mono fun x w' hx=>⟨hx.1,hx.2.1,zO (only_of_below hb) hx.2.2⟩
 show Calls _ _ _ _ fun x w'=>x=hEnd (flushP d).2∧HandAt g w' (flushP d).1∧w.grownBy w' (some g)
 obtain⟨r,hr⟩:∃ r,r=flushP d:=⟨_,rfl⟩
 rw [← hr] at k1
 simp only [← hr] at k2
 rw [← hr]
 have K2:=zh k2
 clear hr k2 hh hd hs hg
 go_enter Tryz.func108,Tryz.ntmps108
 go_wp2_with fail
 refine k1.mono ?_
 rintro e w2 ⟨⟨v',rfl,hd',hs'⟩,hb2⟩
 have k2:=K2.out v' w2 hb2 hd' hs'
 clear k1
 go_wp2_with fail
 refine k2.mono ?_
 rintro e w3 ⟨rfl,hh3,ho3⟩
 by_cases he:r.2=0
 ·have e0:=hEnd0 he
  rw [e0]
  have HE:=zh e0
  have HH:=zh hh3
  clear k2 he e0 hh3
  go_wp2_with fail
  go_end0
  exact⟨HE.out.symm,HH.out,ho3⟩
 ·have e0:=hEnd1 he
  rw [e0]
  exact⟨rfl,e0.symm,hh3,ho3⟩
end
section
open Go.RowKit WalP PackP
section
variable {P:Program} {ops:Array Oper} {rest:List Oper} {o:Oper} {a:Act} {w:World} {Q:Exit→Act→World→Prop}
def CopySrc (w:World) (C:List Value) (dp sp:Option Addr) (g off:Nat):Prop :=
 0<C.length→dp=some ⟨g,off,none⟩∧∃ ad,sp=some ad∧∀ j v,C[j]?=some v→w.cell? (ad.add j)=some v
theorem wp_copy_at (hgd:o.guard=none) (d s:Operand) (dT sT:TypeId)
  (ho:o.op = .call { callee:=.builtin .copy,args:=#[d,s],argTypes:=#[dT,sT] }) (elem:TypeId) (hu:P.underlying dT=some (.slice elem)) (hsz:(P.info? elem).map (·.size)=some 1)
  (dp sp:Option Addr) (dLen dCap sLen sCap:Nat) (hd:a.eval d = .slice dp dLen dCap) (hs:a.eval s = .slice sp sLen sCap)
  (g off:Nat) (cur:List Value) (t:TypeId) (hg:w.heap[g]?=some (.cells cur.toArray t (0,0))) (cs:List Value) (hn:cs.length=Nat.min sLen dLen)
  (hpos:CopySrc w cs dp sp g off)
  (hfit:off+cs.length≤cur.length) (h1:∀ v∈cs,v.oneCell'=true)
  (h:∀ w',w'.heap[g]?=some (.cells (splice cur off cs).toArray t (0,0))→Below g w w'→w'.heap.size=w.heap.size→(∀ k,k≠g→w'.heap[k]?=w.heap[k]?)→wpList P ops Q rest (a.put o.dst (goInt cs.length)) w'):wpList P ops Q (o :: rest) a w :=
 wpList_plain hgd fun K hK=>op_copy hgd d s dT sT ho elem hu hsz dp sp dLen dCap sLen sCap hd hs g off cur t hg cs hn hpos hfit h1 fun w' h2 h3 h4 h5=>hK _ _ (h w' h2 h3 h4 h5)
end
theorem below_hand {g:Nat} {w w':World} (h:w.grownBy w' (some g)) (hg:g<w.heap.size):Below g w w':=⟨h.os,h.tape,h.output,h.size,fun k hk=>h.block k (by omega) (fun e=>by cases e;omega)⟩
theorem HandAt.lt {g:Nat} {w:World} {d:DiskP} (h:HandAt g w d):g<w.heap.size:=by obtain⟨_,h,_⟩:=h;exact zB h
theorem pad64_take (b:List UInt8):pad64 (b.take 64)=pad64 b:=by
 unfold pad64
 rw [List.take_take,List.length_take]
 congr 2
 omega
theorem bytesD_succ (at_:Int) (bs:List UInt8) (k:Nat) (hk:k<(bs.length+63) / 64):(bytesD at_ bs).take (k+1)=(bytesD at_ bs).take k++[.put (at_+1+k) (pad64 (bs.drop (64*k)))]:=by
 unfold bytesD
 rw [List.take_add_one,List.getElem?_map,List.getElem?_range hk]
 rfl
theorem bytesD_all (at_:Int) (bs:List UInt8) (k:Nat) (hk:(bs.length+63) / 64≤k):(bytesD at_ bs).take k=bytesD at_ bs:=List.take_of_length_le (by unfold bytesD;simpa using hk)
theorem run_bad (d:DiskP) (xs ys:List Deed) (h:(run d xs).2≠0):run d (xs++ys)=run d xs:=by rw [WalP.run_append,if_neg h]
theorem run_good (d:DiskP) (xs ys:List Deed) (h:(run d xs).2=0):run d (xs++ys)=run (run d xs).1 ys:=by rw [WalP.run_append,if_pos h]
theorem run_fail_at (d d':DiskP) (xs ys:List Deed) (x:Deed) (h:run d xs=(d',0)) (hx:(deed d' x).2≠0):run d ((xs++[x])++ys)=deed d' x:=by
 have h1:run d (xs++[x])=deed d' x:=by rw [run_good d xs [x] (by rw [h]),h,run_one]
 rw [run_bad d _ _ (by rw [h1];exact hx),h1]
theorem Bytes.form {B:Nat} {w:World} {v:Value} {bs:List UInt8} (h:Bytes B w v bs):∃ a c,v = .slice a bs.length c:=by obtain⟨_,a,c,h,_⟩:=h;exact⟨a,c,h⟩
theorem chunk_facts (bs:List UInt8) (k L n:Nat) (hL:L=bs.length-64*k) (hn:n=min L 64) :
  (bs.drop (64*k)).length=L∧((bs.drop (64*k)).take 64).length=n∧((bs.drop (64*k)).drop n).length=bs.length-64*(k+1)∧(bs.drop (64*k)).drop n=bs.drop (64*(k+1))∧n≤L∧n≤64:=by
 have h1:(bs.drop (64*k)).length=L:=by rw [List.length_drop,hL]
 have hd:(bs.drop (64*k)).drop n=bs.drop (64*(k+1)):=by
  by_cases h64:64≤L
  ·have:n=64:=by omega
   rw [this,List.drop_drop];congr 1
  ·rw [List.drop_of_length_le (by omega),List.drop_of_length_le (by omega)]
 exact⟨h1,by rw [List.length_take,h1];omega,by rw [hd,List.length_drop],hd,by omega,by omega⟩
set_option maxRecDepth 100000 in
set_option maxHeartbeats 2000000 in
theorem hbytes_any {g:Nat} (d:DiskP) (at_:Int) (v:Value) (bs:List UInt8) (w:World) (hh:HandAt g w d) (hv:Bytes g w v bs) (hlen:bs.length≤2^20) (ha0:0≤at_) (ha1:at_≤2^40) :
  Calls Tryz.prog 107 #[.pointer (some ⟨g,0,none⟩),.int .i64 at_,v] w fun x w'=>x=hEnd (run d (bytesD at_ bs)).2∧HandAt g w' (run d (bytesD at_ bs)).1∧w.grownBy w' (some g):=by
 obtain⟨z0,hz0,hzr⟩:=zero44
 obtain⟨N,hN⟩:∃ N,N=(bs.length+63) / 64:=⟨_,rfl⟩
 obtain⟨a0,c0,rfl⟩:=hv.form
 have HV:=zh hv
 have HH:=zh hh
 have HN:=zh hN
 have HZ:=zh hzr
 have HZ0:=zh hz0
 clear hv hh hN hzr hz0
 go_enter Tryz.func107,Tryz.ntmps107
 go_wp2_with fail
 go_loopw [1,2] (fun z u wr=>∃ (k:Nat) (dk:DiskP) (a:Option Addr) (c:Nat),k≤N∧z = .int .i64 (at_+k)∧u = .slice a (bs.length-64*k) c∧Bytes g wr (.slice a (bs.length-64*k) c) (bs.drop (64*k))∧HandAt g wr dk∧run d ((bytesD at_ bs).take k)=(dk,0)∧w.grownBy wr (some g)) (fun z u _=>match u with | .slice _ n _=>n | _=>0)
 case atStart=>exact⟨0,d,a0,c0,Nat.zero_le _,by simp,by simp,by simpa using HV.out,HH.out,rfl,only_refl _ _⟩
 case round =>
  obtain⟨k,dk,a,c,hk,rfl,rfl,hb,hh,hr,ho⟩:=hrel
  obtain⟨L,hL⟩:∃ L,L=bs.length-64*k:=⟨_,rfl⟩
  rw [← hL] at hb ⊢
  have hL20:L≤2^20:=by omega
  obtain⟨n,hn⟩:∃ n,n=min L 64:=⟨_,rfl⟩
  obtain⟨hLl,hlc,hdl,hdd,hn1,hn2⟩:=chunk_facts bs k L n hL hn
  have HL:=zh hL
  have HR:=zh hr
  have HO:=zh ho
  clear hr ho
  by_cases hp:0<L
  ·have hkN:k<N:=by have:=HN.out;omega
   obtain⟨zk,hzk⟩:∃ z,z=at_+(k:Int):=⟨_,rfl⟩
   have hz0:0≤zk:=by omega
   have hz1:zk≤2^41:=by have:=HN.out;omega
   rw [← hzk]
   have HZK:=zh hzk
   clear hzk
   clear hL
   obtain⟨w1,hw1⟩:∃ w1,w1=wr.alloc (.cells z0.cells 94):=⟨_,rfl⟩
   have hb1:Below wr.heap.size wr w1:=by rw [hw1];exact Below.alloc (Below.refl _ _) (Nat.le_refl _) _
   have hX1:w1.heap[wr.heap.size]?=some (.cells (u8s zeroS).toArray 94 (0,0)):=by rw [hw1,← HZ0.out];exact heap_alloc_new wr _
   have hg:=hh.lt
   have hbb1:=hb.below (hb1.mono (Nat.le_of_lt hg))
   obtain⟨b,off,rfl,hbg,hcells⟩:∃ b off,a=some ⟨b,off,none⟩∧b<g∧∀ j u,(u8s ((bs.drop (64*k)).take 64))[j]?=some u→w1.cell? ⟨b,off+j,none⟩=some u:=by
    obtain⟨_,a',c',hv,_,_,h4⟩:=hbb1
    cases hv
    obtain⟨b,off,rfl,h5,h6⟩:=h4 hp
    refine⟨b,off,rfl,h5,fun j u hj=>h6 j u ?_⟩
    rw [← u8s_take] at hj
    have hjl:=(List.getElem?_eq_some_iff.1 hj).1
    rw [List.getElem?_take] at hj
    split at hj
    ·exact hj
    ·cases hj
   obtain⟨C,hC⟩:∃ C,C=u8s ((bs.drop (64*k)).take 64):=⟨_,rfl⟩
   rw [← hC] at hcells
   have hCl:C.length=n:=by rw [hC,zL,hlc]
   have hC1:∀ v∈C,v.oneCell'=true:=by rw [hC];exact oneCell_u8s _
   have hcn:C.length=Nat.min L 64:=by rw [hCl,hn]
   have hcp:CopySrc w1 C (some ⟨wr.heap.size,0,none⟩) (some ⟨b,off,none⟩) wr.heap.size 0 :=
    fun _=>⟨rfl,_,rfl,fun j v hj=>by rw [addp];exact hcells j v hj⟩
   have hcf:0+C.length≤(u8s zeroS).length:=by rw [hCl,zL];simpa [zeroS] using hn2
   have HCP:=zh hcp
   have HCF:=zh hcf
   have HC1:=zh hC1
   clear hcp hcf hC1
   have hspl:splice (u8s zeroS) 0 C=u8s (pad64 (bs.drop (64*k))):=by rw [hC,splice_pad _ (by rw [hlc];exact hn2),pad64_take]
   obtain⟨i0,hi,_,hsz,_⟩:=info_parts info_u8
   rw [← hLl] at hbb1
   obtain⟨v2,kv,hv2⟩:=run_slice_from (P:=Tryz.prog) Tryz.underlying23 hi hsz hbb1 n (by rw [hLl];exact hn1)
   rw [hLl] at kv
   obtain⟨a2,c2,rfl⟩:=hv2.form
   rw [hdl] at kv hv2
   rw [hdd] at hv2
   have hW1:=zh hw1
   have HV2:=zh hv2
   have HSP:=zh hspl
   have HX1:=zh hX1
   have HH1:=zh (hh.below hb1)
   have HH0:=zh hh
   have HB0:=zh hb1
   have HCN:=zh hcn
   have HCL:=zh hCl
   have HDL:=zh hdl
   have HDD:=zh hdd
   clear hw1 hv2 hspl hX1 hb1 hbb1 hb hh hcn hCl hdl hdd hC hcells hlc hLl hn
   go_wp2_with (refine wp_alloc_to (w':=w1) 94 rfl rfl (HZ.out _) ?_ ?_;(exact hW1.out);refine Halt.in ?_)
   refine Halt.out ?_
   clear hW1
   go_wp2_with (refine wp_copy_at rfl (.tmp 13) (.tmp 14) 23 23 rfl 5 Tryz.underlying23 info_u8s _ _ 64 64 L c rfl rfl wr.heap.size 0 (u8s zeroS) _ HX1.out C HCN.out HCP.out HCF.out HC1.out ?_;intro w2 hX2 hb2 hs2 ho2;refine Halt.in ?_)
   refine Halt.out ?_
   rw [HCL.out]
   rw [HSP.out] at hX2
   have hb12:Below wr.heap.size wr w2:=HB0.out.trans hb2
   have hh2:=HH0.out.below hb12
   have hlt2:=hh2.lt
   have hv2:=HV2.out.below (hb2.mono (Nat.le_of_lt HH0.out.lt))
   have ho12:=zO HO.out (only_of_below (g:=g) hb12)
   obtain⟨pd,hpd⟩:∃ p,p=pad64 (bs.drop (64*k)):=⟨_,rfl⟩
   have hpl:pd.length=64:=by rw [hpd];exact length_pad64 _
   have kp:=hput_any dk (zk+1) pd w2 hh2 hpl
   rw [← hpd] at hX2
   obtain⟨i44,hi44,hs44⟩:=info44
   have hld:=run_load_big (P:=Tryz.prog) (t:=94) Tryz.underlying94 (.inl ⟨_,_,rfl⟩) hi44 (w:=w2) (b:=wr.heap.size) (off:=0) (cs:=u8s pd) hs44 (by rw [zL,hpl])
    (fun j u hj=>by rw [cR w2 _ (0+j) _ _ _ hX2];simpa using hj)
   obtain⟨X,hX⟩:∃ X,X=(u8s pd).toArray:=⟨_,rfl⟩
   rw [← hX] at hld kp
   have HV3:=zh hv2
   have HO3:=zh ho12
   have HPD:=zh hpd
   clear hb12 hh2 hv2 ho12 hb2 hs2 ho2 hX hX2 hi44 hs44 hpd hpl
   go_wp2_with (refine wp_load_at (.tmp 6) 94 rfl rfl rfl hld ?_;refine Halt.in ?_)
   refine Halt.out ?_
   clear hld
   go_wp2_with fail
   refine kp.mono ?_
   rintro e w3 ⟨rfl,hh3,ho3⟩
   have hdeed:(bytesD at_ bs).take (k+1)=(bytesD at_ bs).take k++[.put (zk+1) pd]:=by
    rw [bytesD_succ at_ bs k (by rw [← HN.out];exact hkN),HPD.out,HZK.out]
    congr 3
    omega
   have HD:=zh hdeed
   have HO4:=zh (zO HO3.out ho3)
   have HV4:=zh (HV3.out.below (below_hand ho3 hlt2))
   clear hdeed
   by_cases he:(deed dk (.put (zk+1) pd)).2=0
   ·have e0:=hEnd0 he
    rw [e0]
    have HH3:=zh hh3
    have HE:=zh he
    clear kp he e0 hh3 ho3
    go_wp2_with fail
    go_roundw
    case rel =>
     refine⟨k+1,(deed dk (.put (zk+1) pd)).1,a2,c2,by omega,by rw [HZK.out];congr 1;omega,rfl,HV4.out,HH3.out,?_,HO4.out⟩
     rw [HD.out,run_good _ _ _ (by rw [HR.out]),HR.out,run_one,← HE.out]
    case measure =>
     show bs.length-64*(k+1)<L
     have:=HL.out
     omega
   ·have e0:=hEnd1 he
    rw [e0]
    have hall:run d (bytesD at_ bs)=deed dk (.put (zk+1) pd):=by
     rw [← List.take_append_drop (k+1) (bytesD at_ bs),HD.out]
     exact run_fail_at d dk _ _ _ HR.out he
    refine⟨rfl,?_⟩
    show _=hEnd (run d (bytesD at_ bs)).2∧HandAt g w3 (run d (bytesD at_ bs)).1∧w.grownBy w3 (some g)
    rw [hall]
    exact⟨e0.symm,hh3,HO4.out⟩
  ·have hkN:N≤k:=by have:=HN.out;have:=HL.out;omega
   obtain rfl:L=0:=by omega
   have hall:=bytesD_all at_ bs k (by rw [← HN.out];exact hkN)
   go_wp2_with fail
   go_end0
   have:=HR.out
   rw [hall] at this
   rw [this]
   exact⟨(hEnd0 rfl).symm,hh,HO.out⟩
end
end Go.Proofs.YtaijompnohkmaaaGreatDoor
