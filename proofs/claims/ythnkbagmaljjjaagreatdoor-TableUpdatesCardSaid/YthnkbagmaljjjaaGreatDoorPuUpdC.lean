import Derived.Test.YthnkbagmaljjjaaGreatDoorVtFloat
import Derived.Test.YthnkbagmaljjjaaGreatDoorPuBase
import Derived.Lib.ValidLaws
import Derived.Lib.Mul64
/- Words and rules that the proof uses. -/
namespace Go.Proofs.YthnkbagmaljjjaaGreatDoor.VM
open Go Go.RowKit
def rung (b:F64):Nat:=b.toNat % 9223372036854775808
def negF (b:F64):Bool:=Nat.ble 9223372036854775808 b.toNat
def magF (r:Nat):Nat:=if r < 4503599627370496 then r else (4503599627370496+r % 4503599627370496) * 2 ^ (r / 4503599627370496 - 1)
theorem magF_succ (r:Nat):magF r < magF (r+1):=by
 unfold magF
 by_cases h:r+1 < 4503599627370496
 ·rw [if_pos h,if_pos (by omega)]; omega
 ·rw [if_neg h]
  by_cases h2:r < 4503599627370496
  ·have:r+1=4503599627370496:=by omega
   rw [if_pos h2,this]
   show r < 4503599627370496 * 2 ^ 0
   omega
  ·rw [if_neg h2]
   by_cases h3:(r+1) / 4503599627370496=r / 4503599627370496
   ·rw [h3]
    refine Nat.mul_lt_mul_of_pos_right ?_ (Nat.two_pow_pos _)
    omega
   ·have h4:(r+1) / 4503599627370496=r / 4503599627370496+1:=by omega
    have h5:r % 4503599627370496=4503599627370495:=by omega
    have h6:(r+1) % 4503599627370496=0:=by omega
    have h7:r / 4503599627370496≥1:=by omega
    rw [h4,h5,h6,show r / 4503599627370496+1 - 1=(r / 4503599627370496 - 1)+1 by omega,Nat.pow_succ]
    have:=Nat.two_pow_pos (r / 4503599627370496 - 1)
    generalize 2 ^ (r / 4503599627370496 - 1)=p at *
    omega
theorem magF_mono {r q:Nat} (h:r < q):magF r < magF q:=by
 induction q with
 | zero=>omega
 | succ q ih =>
  by_cases hr:r=q
  ·subst hr; exact magF_succ r
  ·exact Nat.lt_trans (ih (by omega)) (magF_succ q)
theorem magF_inj {r q:Nat} (h:magF r=magF q):r=q:=by
 rcases Nat.lt_trichotomy r q with h1 | h1 | h1
 ·have:=magF_mono h1; omega
 ·exact h1
 ·have:=magF_mono h1; omega
def upF (r:Nat):Nat:=if r < 4503599627370496 then 0 else r / 4503599627370496 - 1
def sigF (r:Nat):Nat:=if r < 4503599627370496 then r else 4503599627370496+r % 4503599627370496
theorem magF_eq (r:Nat):magF r=sigF r * 2 ^ upF r:=by
 unfold magF sigF upF
 split<;>simp
theorem read_num {b:F64} (h:rung b < 9218868437227405312):FloatKind.f64.format.read b.toNat=.number (negF b) (sigF (rung b)) ((-1074:Int)+(upF (rung b):Nat)):=by
 have hb:b.toNat < 18446744073709551616:=b.toNat_lt
 unfold Ieee.Format.read
 have e1:FloatKind.f64.format.signWeight=9223372036854775808:=by decide
 have e2:FloatKind.f64.format.binade=4503599627370496:=by decide
 have e3:FloatKind.f64.format.infRung=9218868437227405312:=by decide
 have e4:FloatKind.f64.format.leastPlace = -1074:=by decide
 rw [e1,e2,e3,e4]
 have hn:(b.toNat / 9223372036854775808 % 2 == 1)=negF b:=by
  unfold negF
  by_cases hc:9223372036854775808≤b.toNat
  ·rw [Nat.ble_eq_true_of_le hc]
   have:b.toNat / 9223372036854775808 % 2=1:=by omega
   rw [this]; rfl
  ·have h1:Nat.ble 9223372036854775808 b.toNat=false:=Bool.eq_false_iff.2 fun q=>hc (Nat.le_of_ble_eq_true q)
   rw [h1]
   have:b.toNat / 9223372036854775808 % 2=0:=by omega
   rw [this]; rfl
 rw [hn]
 unfold rung at h
 unfold sigF upF rung
 dsimp only
 by_cases hs:b.toNat % 9223372036854775808 < 4503599627370496
 ·rw [if_pos hs,if_pos hs,if_pos hs]
  rfl
 ·rw [if_neg hs,if_neg hs,if_neg hs,if_pos h]
theorem read_inf {b:F64} (h:rung b=9218868437227405312):FloatKind.f64.format.read b.toNat=.infinity (negF b):=by
 have hb:b.toNat < 18446744073709551616:=b.toNat_lt
 unfold Ieee.Format.read
 have e1:FloatKind.f64.format.signWeight=9223372036854775808:=by decide
 have e2:FloatKind.f64.format.binade=4503599627370496:=by decide
 have e3:FloatKind.f64.format.infRung=9218868437227405312:=by decide
 rw [e1,e2,e3]
 have hn:(b.toNat / 9223372036854775808 % 2 == 1)=negF b:=by
  unfold negF
  by_cases hc:9223372036854775808≤b.toNat
  ·rw [Nat.ble_eq_true_of_le hc]
   have:b.toNat / 9223372036854775808 % 2=1:=by omega
   rw [this]; rfl
  ·have h1:Nat.ble 9223372036854775808 b.toNat=false:=Bool.eq_false_iff.2 fun q=>hc (Nat.le_of_ble_eq_true q)
   rw [h1]
   have:b.toNat / 9223372036854775808 % 2=0:=by omega
   rw [this]; rfl
 rw [hn]
 unfold rung at h
 dsimp only
 rw [h,if_neg (by decide),if_neg (by decide),if_pos rfl]
theorem read_nan {b:F64} (h:rung b > 9218868437227405312):∃ s t,FloatKind.f64.format.read b.toNat=.nan s t:=by
 unfold Ieee.Format.read
 have e1:FloatKind.f64.format.signWeight=9223372036854775808:=by decide
 have e2:FloatKind.f64.format.binade=4503599627370496:=by decide
 have e3:FloatKind.f64.format.infRung=9218868437227405312:=by decide
 rw [e1,e2,e3]
 unfold rung at h
 dsimp only
 rw [if_neg (by omega),if_neg (by omega),if_neg (by omega)]
 exact ⟨_,_,rfl⟩
def skey (b:F64):Int:=if negF b=true then -((rung b:Nat):Int) else ((rung b:Nat):Int)
theorem cmp_scale (x y:Int) {p:Nat} (hp:0 < p):compare x y=compare (x * (p:Int)) (y * (p:Int)):=by
 have hp2:(0:Int) < (p:Int):=by omega
 have h1:x < y↔x * (p:Int) < y * (p:Int):=⟨fun h=>Int.mul_lt_mul_of_pos_right h hp2,fun h=>Int.lt_of_mul_lt_mul_right h (Int.le_of_lt hp2)⟩
 have h2:x=y↔x * (p:Int)=y * (p:Int):=⟨fun h=>by rw [h],fun h=>Int.eq_of_mul_eq_mul_right (by omega) h⟩
 simp only [compare,compareOfLessAndEq]
 by_cases h3:x < y
 ·rw [if_pos h3,if_pos (h1.1 h3)]
 ·rw [if_neg h3,if_neg (fun q=>h3 (h1.2 q))]
  by_cases h4:x=y
  ·rw [if_pos h4,if_pos (h2.1 h4)]
  ·rw [if_neg h4,if_neg (fun q=>h4 (h2.2 q))]
theorem cmp_iff {x y x' y':Int} (h1:x < y↔x' < y') (h2:x=y↔x'=y'):compare x y=compare x' y':=by
 simp only [compare,compareOfLessAndEq]
 by_cases h3:x < y
 ·rw [if_pos h3,if_pos (h1.1 h3)]
 ·rw [if_neg h3,if_neg (fun q=>h3 (h1.2 q))]
  by_cases h4:x=y
  ·rw [if_pos h4,if_pos (h2.1 h4)]
  ·rw [if_neg h4,if_neg (fun q=>h4 (h2.2 q))]
theorem signed_scale (s:Bool) (m up k:Nat):Ieee.signed s m up * ((2 ^ k:Nat):Int)=if s=true then -((m * 2 ^ (up+k):Nat):Int) else ((m * 2 ^ (up+k):Nat):Int):=by
 unfold Ieee.signed
 rw [Nat.shiftLeft_eq,Nat.pow_add,← Nat.mul_assoc]
 split
 ·rw [Int.neg_mul]; rfl
 ·rfl
theorem ford_num {a b:F64} (ha:rung a < 9218868437227405312) (hb:rung b < 9218868437227405312):ford a b=some (compare (skey a) (skey b)):=by
 unfold ford Ieee.Format.order
 rw [read_num ha,read_num hb]
 unfold Ieee.Datum.order
 dsimp only
 congr 1
 generalize hua:upF (rung a)=ua
 generalize hub:upF (rung b)=ub
 have hmin:min ((-1074:Int)+(ua:Nat)) ((-1074:Int)+(ub:Nat))=(-1074:Int)+((min ua ub:Nat):Int):=by omega
 rw [hmin]
 have e1:((-1074:Int)+(ua:Nat) - ((-1074:Int)+((min ua ub:Nat):Int))).toNat=ua - min ua ub:=by omega
 have e2:((-1074:Int)+(ub:Nat) - ((-1074:Int)+((min ua ub:Nat):Int))).toNat=ub - min ua ub:=by omega
 rw [e1,e2,cmp_scale _ _ (p:=2 ^ min ua ub) (Nat.two_pow_pos _),signed_scale,signed_scale,show ua - min ua ub+min ua ub=ua by omega,show ub - min ua ub+min ua ub=ub by omega,← hua,← hub,← magF_eq,← magF_eq]
 unfold skey
 have m1:rung a < rung b↔magF (rung a) < magF (rung b):=⟨magF_mono,fun h=>Nat.lt_of_not_le fun q=>by
  rcases Nat.lt_or_ge (rung b) (rung a) with h2 | h2
  ·have:=magF_mono h2; omega
  ·have:rung a=rung b:=by omega
   rw [this] at h; omega⟩
 have m2:rung a=rung b↔magF (rung a)=magF (rung b):=⟨fun h=>by rw [h],magF_inj⟩
 have z1:rung a=0↔magF (rung a)=0:=⟨fun h=>by rw [h]; rfl,fun h=>magF_inj (h.trans rfl)⟩
 have z2:rung b=0↔magF (rung b)=0:=⟨fun h=>by rw [h]; rfl,fun h=>magF_inj (h.trans rfl)⟩
 generalize magF (rung a)=x at *
 generalize magF (rung b)=y at *
 generalize rung a=r at *
 generalize rung b=q at *
 refine cmp_iff ?_ ?_
 ·split<;>split<;>omega
 ·split<;>split<;>omega
theorem cmp_lt {x y:Int}:(compare x y=.lt)↔x < y:=by
 simp only [compare,compareOfLessAndEq]
 by_cases h:x < y
 ·simp [h]
 ·rw [if_neg h]
  by_cases h2:x=y
  ·simp [h2]
  ·simp [h,h2]
theorem cmp_eq {x y:Int}:(compare x y=.eq)↔x=y:=by
 simp only [compare,compareOfLessAndEq]
 by_cases h:x < y
 ·simp [h]; omega
 ·rw [if_neg h]
  by_cases h2:x=y
  ·simp [h2]
  ·simp [h2]
theorem cmp_gt {x y:Int}:(compare x y=.gt)↔y < x:=by
 simp only [compare,compareOfLessAndEq]
 by_cases h:x < y
 ·simp [h]; omega
 ·rw [if_neg h]
  by_cases h2:x=y
  ·simp [h2]
  ·simp [h2]; omega
theorem ford_eq {a b:F64} (ha:rung a≤9218868437227405312) (hb:rung b≤9218868437227405312):ford a b=some (compare (skey a) (skey b)):=by
 by_cases h1:rung a=9218868437227405312
 ·by_cases h2:rung b=9218868437227405312
  ·unfold ford Ieee.Format.order skey
   rw [read_inf h1,read_inf h2,h1,h2]
   cases negF a<;>cases negF b<;>rfl
  ·unfold ford Ieee.Format.order skey
   rw [read_inf h1,read_num (by omega),h1]
   unfold Ieee.Datum.order
   dsimp only
   congr 1
   generalize rung b=q at *
   cases negF a
   ·simp only [Bool.false_eq_true,if_false]
    exact (cmp_gt.2 (by split<;>omega)).symm
   ·simp only [if_true]
    exact (cmp_lt.2 (by split<;>omega)).symm
 ·by_cases h2:rung b=9218868437227405312
  ·unfold ford Ieee.Format.order skey
   rw [read_inf h2,read_num (by omega),h2]
   unfold Ieee.Datum.order
   dsimp only
   congr 1
   generalize rung a=q at *
   cases negF b
   ·simp only [Bool.false_eq_true,if_false]
    exact (cmp_lt.2 (by split<;>omega)).symm
   ·simp only [if_true]
    exact (cmp_gt.2 (by split<;>omega)).symm
  ·exact ford_num (by omega) (by omega)
theorem ford_nan {a:F64} (h:rung a > 9218868437227405312):ford a a=none:=by
 obtain ⟨s,t,e⟩:=read_nan h
 unfold ford Ieee.Format.order
 rw [e]
 rfl
end Go.Proofs.YthnkbagmaljjjaaGreatDoor.VM

/- Words and rules that the proof uses. -/
namespace Go.Proofs.YthnkbagmaljjjaaGreatDoor.VM
open Go Go.RowKit
theorem valid_ok {s:List UInt8} (h:s.length≤9223372036854775807):∃ b,g_utf8_ValidString s=some b:=by
 unfold g_utf8_ValidString
 rw [if_pos h]
 exact ⟨_,rfl⟩
theorem valid_nil:g_utf8_ValidString []=some true:=by
 unfold g_utf8_ValidString
 rw [if_pos (by simp)]
 rfl
end Go.Proofs.YthnkbagmaljjjaaGreatDoor.VM

/- Words and rules that the proof uses. -/
namespace Go.Proofs.YthnkbagmaljjjaaGreatDoor.VM
open Go Go.RowKit
theorem shl1_nat (b:UInt64):(shl_u64 b 1).toNat=2 * (b.toNat % 9223372036854775808):=by
 show (b.toBitVec <<< 1).toNat=_
 rw [BitVec.toNat_shiftLeft,Nat.shiftLeft_eq]
 show b.toNat * 2 ^ 1 % 2 ^ 64=_
 omega
theorem bad_iff (b:UInt64):((18437736874454810624:UInt64) < shl_u64 b 1)↔rung b > 9218868437227405312:=by
 rw [UInt64.lt_iff_toNat_lt,shl1_nat]
 show 18437736874454810624 < _↔_
 unfold rung
 omega
theorem top_iff (b:UInt64):b=(9223372036854775808:UInt64)↔b.toNat=9223372036854775808:=by
 constructor
 ·intro h; rw [h]; rfl
 ·intro h; exact UInt64.toNat_inj.1 h
theorem sign_eq (b:UInt64):(w64 (b.toNat:Int) < 0)↔9223372036854775808≤b.toNat:=by
 have hb:b.toNat < 18446744073709551616:=b.toNat_lt
 unfold w64 IntKind.wrap
 have e1:(2 ^ IntKind.i64.bits:Int)=18446744073709551616:=by decide
 have e2:(2 ^ (IntKind.i64.bits - 1):Int)=9223372036854775808:=by decide
 have e3:IntKind.i64.signed=true:=rfl
 rw [e1,e2,e3]
 simp only [Bool.true_and,decide_eq_true_eq]
 split<;>omega
theorem skey0:skey (0:F64)=0:=by decide
theorem ford_self {b:F64} (h:rung b≤9218868437227405312):ford b b=some .eq:=by
 rw [ford_eq h h,cmp_eq.2 rfl]
theorem real_bad (b:UInt64):(if (fneq b b)=true then some true else (if (feq b (0:F64))=true then (g_math_Signbit b).bind fun r'4=>some r'4 else some false))=some (decide ((b=(9223372036854775808:UInt64))∨((18437736874454810624:UInt64) < shl_u64 b 1))):=by
 have hb:b.toNat < 18446744073709551616:=b.toNat_lt
 by_cases h:rung b > 9218868437227405312
 ·have:fneq b b=true:=by unfold fneq; rw [ford_nan h]; rfl
  rw [if_pos this,decide_eq_true (.inr ((bad_iff b).2 h))]
 ·have h':rung b≤9218868437227405312:=by omega
  have h1:¬ (fneq b b=true):=by unfold fneq; rw [ford_self h']; decide
  rw [if_neg h1]
  by_cases h2:rung b=0
  ·have h3:feq b (0:F64)=true:=by
    unfold feq
    rw [ford_eq h' (by decide),skey0]
    have:skey b=0:=by unfold skey; rw [h2]; split<;>rfl
    rw [this]
    rfl
   rw [if_pos h3]
   unfold g_math_Signbit
   rw [Option.bind_some]
   congr 1
   rw [decide_eq_decide,sign_eq,top_iff,bad_iff]
   unfold rung at *
   omega
  ·have h3:¬ (feq b (0:F64)=true):=by
    unfold feq
    rw [ford_eq h' (by decide),skey0]
    intro q
    have q2:compare (skey b) 0=.eq:=by simpa using q
    have:=cmp_eq.1 q2
    unfold skey at this
    split at this<;>omega
   rw [if_neg h3,decide_eq_false]
   rw [top_iff,bad_iff]
   unfold rung at *
   omega
theorem u64i (n:Int):(UInt64.ofInt n).toNat=(n % 18446744073709551616).toNat:=by
 unfold UInt64.ofInt
 rw [UInt64.toNat_ofNat']
 have:(2:Int) ^ 64=18446744073709551616:=by decide
 have:(2:Nat) ^ 64=18446744073709551616:=by decide
 omega
def okV1 (v:GValue):Prop:=0≤v.Kind∧v.Kind≤4∧v.Text.length≤40∧(v.Kind=3→¬ ((v.Bits=(9223372036854775808:UInt64))∨((18437736874454810624:UInt64) < shl_u64 v.Bits 1)))
theorem check_eq (v:GValue) (hi:okI v.Int_):∃ e:Int,g_value_Check v=some e∧g_ref_ValueFault v=some e∧(e=0→okV1 v):=by
 obtain ⟨k,i,b,t⟩:=v
 unfold okI at hi
 dsimp only at hi
 unfold g_value_Check g_ref_ValueFault g_ref_badReal okV1
 dsimp only
 by_cases hk:k < 0∨k > 4
 ·rw [if_pos hk,if_neg (show ¬ k=0 by omega),if_neg (show ¬ k=1 by omega),Option.bind_some,decide_eq_false (show ¬ k=2 by omega),if_neg (by decide),if_neg (show ¬ k=3 by omega),if_neg (show ¬ k=4 by omega)]
  exact ⟨2,rfl,rfl,fun q=>absurd q (by decide)⟩
 ·rw [if_neg hk]
  by_cases hl:(t.length:Int) > 40
  ·rw [if_pos hl]
   refine ⟨1,rfl,?_,fun q=>absurd q (by decide)⟩
   have hk5:k=0∨k=1∨k=2∨k=3∨k=4:=by omega
   rcases hk5 with rfl | rfl | rfl | rfl | rfl<;>simp [hl]
  ·rw [if_neg hl,letO_eq]
   obtain ⟨vb,hv⟩:=valid_ok (s:=t) (by omega)
   have hk5:k=0∨k=1∨k=2∨k=3∨k=4:=by omega
   rcases hk5 with rfl | rfl | rfl | rfl | rfl
   ·by_cases h:t=[]∧b=0∧i=0
    ·obtain ⟨rfl,rfl,rfl⟩:=h
     refine ⟨0,by simp,?_,fun _=>by simp⟩
     simp [valid_nil,GValue.zero]
    ·refine ⟨3,?_,?_,fun q=>absurd q (by decide)⟩
     ·rw [if_pos]
      simp
      by_cases h1:t=[]
      ·by_cases h2:b=0
       ·exact .inr fun q=>h ⟨h1,h2,q⟩
       ·exact .inl (.inr h2)
      ·exact .inl (.inl h1)
     ·simp [GValue.zero,hl]
      rw [if_neg (fun q=>h ⟨q.2.2,q.2.1,q.1⟩)]
      rfl
   ·by_cases h:t=[]∧b=0
    ·obtain ⟨rfl,rfl⟩:=h
     by_cases hi2:i=0∨i=1
     ·have h1:¬ ((1:UInt64) < UInt64.ofInt i):=by
       rw [UInt64.lt_iff_toNat_lt,u64i]
       show ¬ 1 < _
       omega
      refine ⟨0,?_,?_,fun _=>by simp⟩
      ·simp
       rw [if_neg (by omega)]
       rfl
      ·simp [GValue.zero,valid_nil]
       rw [if_neg h1]
       rfl
     ·have h1:(1:UInt64) < UInt64.ofInt i:=by
       rw [UInt64.lt_iff_toNat_lt,u64i]
       show 1 < _
       omega
      refine ⟨3,?_,?_,fun q=>absurd q (by decide)⟩
      ·simp
       rw [if_pos (by omega)]
       rfl
      ·simp [GValue.zero]
       rw [if_pos h1]
       rfl
    ·refine ⟨3,?_,?_,fun q=>absurd q (by decide)⟩
     ·rw [if_pos]
      simp
      by_cases h1:t=[]
      ·exact .inr fun q=>h ⟨h1,q⟩
      ·exact .inl h1
     ·simp [GValue.zero,hl]
      rw [if_neg (fun q=>h ⟨q.2,q.1⟩)]
      rfl
   ·by_cases h:t=[]∧b=0
    ·obtain ⟨rfl,rfl⟩:=h
     refine ⟨0,by simp,?_,fun _=>by simp⟩
     simp [valid_nil,GValue.zero]
    ·refine ⟨3,?_,?_,fun q=>absurd q (by decide)⟩
     ·rw [if_pos]
      simp
      by_cases h1:t=[]
      ·exact .inr fun q=>h ⟨h1,q⟩
      ·exact .inl h1
     ·simp [GValue.zero,hl]
      rw [if_neg (fun q=>h ⟨q.2,q.1⟩)]
      rfl
   ·by_cases h:t=[]∧i=0
    ·obtain ⟨rfl,rfl⟩:=h
     have hr:=real_bad b
     by_cases hb:(b=(9223372036854775808:UInt64))∨((18437736874454810624:UInt64) < shl_u64 b 1)
     ·refine ⟨3,?_,?_,fun q=>absurd q (by decide)⟩
      ·rw [if_neg (by simp),if_neg (by decide),if_pos rfl,hr,decide_eq_true hb]
       rfl
      ·revert hb
       generalize shl_u64 b 1=z
       intro hb
       simp [GValue.zero]
       rw [if_pos hb]
       rfl
     ·refine ⟨0,?_,?_,fun _=>⟨by decide,by decide,by simp,fun _=>hb⟩⟩
      ·rw [if_neg (by simp),if_neg (by decide),if_pos rfl,hr,decide_eq_false hb]
       rfl
      ·revert hb
       generalize shl_u64 b 1=z
       intro hb
       simp [GValue.zero,valid_nil]
       rw [if_neg hb]
       rfl
    ·refine ⟨3,?_,?_,fun q=>absurd q (by decide)⟩
     ·rw [if_pos]
      simp
      by_cases h1:t=[]
      ·exact .inr fun q=>h ⟨h1,q⟩
      ·exact .inl h1
     ·simp [GValue.zero,hl]
      rw [if_neg (fun q=>h ⟨q.2,q.1⟩)]
      rfl
   ·by_cases h:b=0∧i=0
    ·obtain ⟨rfl,rfl⟩:=h
     cases vb with
     | true =>
      refine ⟨0,?_,?_,fun _=>⟨by decide,by decide,by omega,fun q=>absurd q (by decide)⟩⟩
      ·simp [hv]
      ·simp [GValue.zero,hv,hl]
     | false =>
      refine ⟨3,?_,?_,fun q=>absurd q (by decide)⟩
      ·simp [hv]
      ·simp [GValue.zero,hv,hl]
    ·refine ⟨3,?_,?_,fun q=>absurd q (by decide)⟩
     ·rw [if_pos]
      simp
      by_cases h1:b=0
      ·exact .inr fun q=>h ⟨h1,q⟩
      ·exact .inl h1
     ·simp [GValue.zero,hl]
      rw [if_neg (fun q=>h ⟨q.2,q.1⟩)]
      rfl
end Go.Proofs.YthnkbagmaljjjaaGreatDoor.VM

/- Words and rules that the proof uses. -/
namespace Go.Proofs.YthnkbagmaljjjaaGreatDoor.VM
open Go Go.RowKit
theorem w64_mod (n:Int):∃ k:Int,w64 n=n+k * 18446744073709551616 ∧ -9223372036854775808≤w64 n∧w64 n≤9223372036854775807:=by
 show ∃ k:Int,IntKind.i64.wrap n=n+k * 18446744073709551616∧_≤IntKind.i64.wrap n∧IntKind.i64.wrap n≤_
 have e:IntKind.i64.wrap n=(n+9223372036854775808) % 18446744073709551616 - 9223372036854775808:=by
  unfold IntKind.wrap
  simp [IntKind.bits,IntKind.signed]
  split<;>omega
 refine ⟨-((n+9223372036854775808) / 18446744073709551616),?_,?_,?_⟩<;>rw [e]<;>omega
theorem add_code {a b:Int} (ha:okI a) (hb:okI b):((decide (w64 (a+b) > a)=decide (b > 0))∨b=0)↔okI (a+b):=by
 unfold okI at *
 obtain ⟨k,h1,h2,h3⟩:=w64_mod (a+b)
 rw [decide_eq_decide]
 omega
theorem sub_code {a b:Int} (ha:okI a) (hb:okI b):((decide (w64 (a - b) < a)=decide (b > 0))∨b=0)↔okI (a - b):=by
 unfold okI at *
 obtain ⟨k,h1,h2,h3⟩:=w64_mod (a - b)
 rw [decide_eq_decide]
 omega
theorem mul_code {a b:Int} (ha:okI a) (hb:okI b) (h0:b≠0) (hy:¬ (b = -1∧a = -9223372036854775808)):w64 ((w64 (a * b)).tdiv b)=a↔okI (a * b):=by
 constructor
 ·intro h
  by_cases b1:b = -1
  ·subst b1
   unfold okI at *
   omega
  by_cases b2:b=1
  ·subst b2
   rw [Int.mul_one]
   exact ha
  obtain ⟨k,h1,h2,h3⟩:=w64_mod (a * b)
  have hm:=Int.mul_tdiv_add_tmod (w64 (a * b)) b
  have hlt:((w64 (a * b)).tmod b).natAbs < b.natAbs:=by
   rw [Int.natAbs_tmod]
   exact Nat.mod_lt _ (by omega)
  have hq:((w64 (a * b)).tdiv b).natAbs≤4611686018427387904:=by
   rw [Int.natAbs_tdiv]
   have hb2:2≤b.natAbs:=by omega
   calc (w64 (a * b)).natAbs / b.natAbs≤(w64 (a * b)).natAbs / 2:=Nat.div_le_div_left hb2 (by decide)
    _≤4611686018427387904:=by omega
  rw [w64_id (by omega)] at h
  rw [h,Int.mul_comm b a] at hm
  unfold okI at *
  omega
 ·intro h
  rw [w64_id h,Int.mul_tdiv_cancel _ h0,w64_id ha]
theorem tdiv_ok {a b:Int} (ha:okI a) (hb:okI b) (h0:b≠0) (h:¬ (a = -9223372036854775808∧b = -1)):okI (a.tdiv b):=by
 have hq:(a.tdiv b).natAbs=a.natAbs / b.natAbs:=Int.natAbs_tdiv a b
 unfold okI at *
 by_cases b1:b = -1
 ·subst b1
  rw [show a.tdiv (-1) = -a by rw [Int.tdiv_neg,Int.tdiv_one]]
  omega
 by_cases b2:b=1
 ·subst b2
  rw [Int.tdiv_one]
  exact ha
 have hb2:2≤b.natAbs:=by omega
 have:a.natAbs / b.natAbs≤a.natAbs / 2:=Nat.div_le_div_left hb2 (by decide)
 omega
theorem u64n (n:Int):(UInt64.ofInt n).toNat=(n % 18446744073709551616).toNat:=by
 unfold UInt64.ofInt
 rw [UInt64.toNat_ofNat']
 have:(2:Int) ^ 64=18446744073709551616:=by decide
 have:(2:Nat) ^ 64=18446744073709551616:=by decide
 omega
theorem up_nat {a:Int} (ha:okI a):((UInt64.ofInt a+(9223372036854775808:UInt64)).toNat:Int)=a+9223372036854775808:=by
 unfold okI at ha
 have h:(UInt64.ofInt a+(9223372036854775808:UInt64)).toNat=((UInt64.ofInt a).toNat+9223372036854775808) % 2 ^ 64:=by
  rw [UInt64.toNat_add]
  rfl
 have:(2:Nat) ^ 64=18446744073709551616:=by decide
 rw [h,u64n]
 omega
theorem int_u64 (n:UInt64):w64 (n.toNat:Int)=if n.toNat < 9223372036854775808 then (n.toNat:Int) else (n.toNat:Int) - 18446744073709551616:=by
 obtain ⟨k,h1,h2,h3⟩:=w64_mod (n.toNat:Int)
 have:=n.toNat_lt
 split<;>omega
theorem size_nat {a:Int} (ha:okI a) (h:a < 0):(0 - UInt64.ofInt a).toNat=a.natAbs:=by
 unfold okI at ha
 rw [UInt64.toNat_sub,u64n]
 show (2 ^ 64 - (a % 18446744073709551616).toNat+0) % 2 ^ 64=_
 have:(2:Nat) ^ 64=18446744073709551616:=by decide
 omega
theorem size_nat2 {a:Int} (ha:okI a) (h:¬ a < 0):(UInt64.ofInt a).toNat=a.natAbs:=by
 unfold okI at ha
 rw [u64n]
 omega
theorem add_ref {a b:Int} (ha:okI a) (hb:okI b) {x y:UInt64} (hx:(x.toNat:Int)=a+9223372036854775808) (hy:(y.toNat:Int)=b+9223372036854775808) :
  (((x+y).toNat < 9223372036854775808∧x.toNat+y.toNat < 18446744073709551616)∨(¬ (x+y).toNat < 9223372036854775808∧¬ x.toNat+y.toNat < 18446744073709551616)↔¬ okI (a+b))∧(okI (a+b)→w64 ((x+y).toNat:Int)=a+b):=by
 have e:(x+y).toNat=(x.toNat+y.toNat) % 2 ^ 64:=UInt64.toNat_add _ _
 have:(2:Nat) ^ 64=18446744073709551616:=by decide
 rw [int_u64,e]
 unfold okI at *
 refine ⟨by omega,fun h=>?_⟩
 split<;>omega
theorem sub_ref {a b:Int} (ha:okI a) (hb:okI b) {x y:UInt64} (hx:(x.toNat:Int)=a+9223372036854775808) (hy:(y.toNat:Int)=b+9223372036854775808) :
  ((¬ (x - y).toNat < 9223372036854775808∧¬ x.toNat < y.toNat)∨((x - y).toNat < 9223372036854775808∧x.toNat < y.toNat)↔¬ okI (a - b))∧(okI (a - b)→w64 ((x - y).toNat:Int)=a - b):=by
 have e:(x - y).toNat=(2 ^ 64 - y.toNat+x.toNat) % 2 ^ 64:=UInt64.toNat_sub _ _
 have:(2:Nat) ^ 64=18446744073709551616:=by decide
 have:=x.toNat_lt
 have:=y.toNat_lt
 rw [int_u64,e]
 unfold okI at *
 refine ⟨by omega,fun h=>?_⟩
 split<;>omega
theorem signed_pos {n:UInt64} (h:n.toNat < 9223372036854775808):w64 (n.toNat:Int)=(n.toNat:Int):=by rw [int_u64,if_pos h]
theorem signed_neg {n:UInt64} (h:n.toNat≤9223372036854775808):w64 ((0 - n).toNat:Int) = -(n.toNat:Int):=by
 have e:(0 - n).toNat=(2 ^ 64 - n.toNat+0) % 2 ^ 64:=UInt64.toNat_sub _ _
 have:(2:Nat) ^ 64=18446744073709551616:=by decide
 rw [int_u64,e]
 split<;>omega
theorem mul_sign {a b:Int} (h0:a≠0) (h1:b≠0):(decide (a < 0)≠decide (b < 0))↔a * b < 0:=by
 rw [Ne,decide_eq_decide]
 rcases Int.lt_or_gt_of_ne h0 with h0 | h0<;>rcases Int.lt_or_gt_of_ne h1 with h1 | h1
 ·have:=Int.mul_pos_of_neg_of_neg h0 h1
  omega
 ·have:=Int.mul_neg_of_neg_of_pos h0 h1
  omega
 ·have:=Int.mul_neg_of_pos_of_neg h0 h1
  omega
 ·have:=Int.mul_pos h0 h1
  omega
theorem low32 (x:UInt64):(x &&& (4294967295:UInt64)).toNat=x.toNat % 4294967296:=by
 rw [UInt64.toNat_and]
 exact Nat.and_two_pow_sub_one_eq_mod x.toNat 32
theorem high32 (x:UInt64):(shr_u64 x 32).toNat=x.toNat / 4294967296:=by
 show (x.toBitVec >>> 32).toNat=_
 rw [BitVec.toNat_ushiftRight,Nat.shiftRight_eq_div_pow]
 rfl
theorem u64mul {a b:UInt64} (h:a.toNat * b.toNat < 18446744073709551616):(a * b).toNat=a.toNat * b.toNat:=by
 rw [UInt64.toNat_mul]
 exact Nat.mod_eq_of_lt h
theorem u64add {a b:UInt64} (h:a.toNat+b.toNat < 18446744073709551616):(a+b).toNat=a.toNat+b.toNat:=by
 rw [UInt64.toNat_add]
 exact Nat.mod_eq_of_lt h
theorem mul_hi (x y:UInt64) {t:UInt64} (ht:t=shr_u64 x 32 * (y &&& (4294967295:UInt64))+shr_u64 ((x &&& (4294967295:UInt64)) * (y &&& (4294967295:UInt64))) 32) :
  ((shr_u64 x 32 * shr_u64 y 32+shr_u64 t 32)+shr_u64 ((t &&& (4294967295:UInt64))+(x &&& (4294967295:UInt64)) * shr_u64 y 32) 32).toNat=x.toNat * y.toNat / 18446744073709551616:=by
 have hx:=x.toNat_lt
 have hy:=y.toNat_lt
 obtain ⟨g1,g2,g3,g4⟩:=Lib.mul64_hi x.toNat y.toNat hx hy
 have ha:=Lib.half_mul_le (a:=x.toNat / 4294967296) (b:=y.toNat / 4294967296) (by omega) (by omega)
 have hb:=Lib.half_mul_le (a:=x.toNat / 4294967296) (b:=y.toNat % 4294967296) (by omega) (by omega)
 have hc:=Lib.half_mul_le (a:=x.toNat % 4294967296) (b:=y.toNat / 4294967296) (by omega) (by omega)
 have e1:((x &&& (4294967295:UInt64)) * (y &&& (4294967295:UInt64))).toNat=(x.toNat % 4294967296) * (y.toNat % 4294967296):=by
  rw [u64mul (by rw [low32,low32]; exact g1),low32,low32]
 have e2:t.toNat=(x.toNat / 4294967296) * (y.toNat % 4294967296)+(x.toNat % 4294967296) * (y.toNat % 4294967296) / 4294967296:=by
  rw [ht,u64add (by rw [u64mul (by rw [high32,low32]; omega),high32,high32,low32,e1]; exact g2),u64mul (by rw [high32,low32]; omega),high32,high32,low32,e1]
 have e3:((x &&& (4294967295:UInt64)) * shr_u64 y 32).toNat=(x.toNat % 4294967296) * (y.toNat / 4294967296):=by
  rw [u64mul (by rw [low32,high32]; omega),low32,high32]
 have e4:((t &&& (4294967295:UInt64))+(x &&& (4294967295:UInt64)) * shr_u64 y 32).toNat=t.toNat % 4294967296+(x.toNat % 4294967296) * (y.toNat / 4294967296):=by
  rw [u64add (by rw [low32,e3,e2]; exact g3),low32,e3]
 have e5:(shr_u64 x 32 * shr_u64 y 32).toNat=(x.toNat / 4294967296) * (y.toNat / 4294967296):=by
  rw [u64mul (by rw [high32,high32]; omega),high32,high32]
 have hlt:x.toNat * y.toNat / 18446744073709551616 < 18446744073709551616:=by
  rw [Nat.div_lt_iff_lt_mul (by decide)]
  exact Nat.mul_lt_mul'' hx hy
 rw [← g4] at hlt ⊢
 rw [← e2] at hlt ⊢
 have e6:(shr_u64 x 32 * shr_u64 y 32+shr_u64 t 32).toNat=(x.toNat / 4294967296) * (y.toNat / 4294967296)+t.toNat / 4294967296:=by
  rw [u64add (by rw [e5,high32]; omega),e5,high32]
 rw [u64add (by rw [e6,high32,e4]; exact hlt),e6,high32,e4]
end Go.Proofs.YthnkbagmaljjjaaGreatDoor.VM

/- Words and rules that the proof uses. -/
namespace Go.Proofs.YthnkbagmaljjjaaGreatDoor.VM
open Go Go.RowKit
instance okI_dec (n : Int) : Decidable (okI n) := by unfold okI; infer_instance
abbrev reckR (n:Int):GValue×Int:=if okI n then (⟨2,n,0,[]⟩,0) else (GValue.zero,6)
theorem ask22:¬ (!decide (((2:Int)=0∨(2:Int)=2)∧((2:Int)=0∨(2:Int)=2)))=true:=by decide
theorem nul22:¬ ((2:Int)=0∨(2:Int)=0):=by decide
theorem add_e {a b:Int} (ha:okI a) (hb:okI b):g_eval_reckon 5 ⟨2,a,0,[]⟩ ⟨2,b,0,[]⟩=some (reckR (a+b)):=by
 have hc:=add_code ha hb
 unfold g_eval_reckon g_eval_asked g_eval_number reckR
 dsimp only
 rw [Option.bind_some,if_neg ask22,if_neg nul22,if_pos rfl]
 by_cases h:okI (a+b)
 ·rw [if_pos (hc.2 h),if_pos h,w64_id h]
  rfl
 ·rw [if_neg (fun q=>h (hc.1 q)),if_neg h]
  rfl
theorem sub_e {a b:Int} (ha:okI a) (hb:okI b):g_eval_reckon 6 ⟨2,a,0,[]⟩ ⟨2,b,0,[]⟩=some (reckR (a - b)):=by
 have hc:=sub_code ha hb
 unfold g_eval_reckon g_eval_asked g_eval_number reckR
 dsimp only
 rw [Option.bind_some,if_neg ask22,if_neg nul22,if_neg (by decide),if_pos rfl]
 by_cases h:okI (a - b)
 ·rw [if_pos (hc.2 h),if_pos h,w64_id h]
  rfl
 ·rw [if_neg (fun q=>h (hc.1 q)),if_neg h]
  rfl
theorem top_lt2 (n:UInt64):n < (9223372036854775808:UInt64)↔n.toNat < 9223372036854775808:=UInt64.lt_iff_toNat_lt
theorem top_le2 (n:UInt64):(9223372036854775808:UInt64)≤n↔¬ n.toNat < 9223372036854775808:=by
 rw [Nat.not_lt]
 exact UInt64.le_iff_toNat_le
theorem le_top2 (n:UInt64):n≤(9223372036854775808:UInt64)↔n.toNat≤9223372036854775808:=UInt64.le_iff_toNat_le
theorem add_r {a b:Int} (ha:okI a) (hb:okI b):g_ref_reckoned 5 a b=some (reckR (a+b)):=by
 obtain ⟨h1,h2⟩:=add_ref ha hb (up_nat ha) (up_nat hb)
 unfold g_ref_reckoned g_ref_intOf reckR
 rw [if_neg (by decide),Option.bind_some,if_pos (by decide),if_pos rfl,letO_eq,letO_eq]
 generalize UInt64.ofInt a+9223372036854775808=x at *
 generalize UInt64.ofInt b+9223372036854775808=y at *
 have e0:(addC x y=0)↔x.toNat+y.toNat < 18446744073709551616:=by
  unfold addC
  split
  ·simp [*]
  ·simp [*]
 have e1:(addC x y=1)↔¬ x.toNat+y.toNat < 18446744073709551616:=by
  unfold addC
  split
  ·simp [*]
  ·simp [*]
 have hk:((addC x y=0∧x+y < (9223372036854775808:UInt64))∨(addC x y=1∧(9223372036854775808:UInt64)≤x+y))↔¬ okI (a+b):=by
  rw [e0,e1,top_lt2,top_le2,← h1,and_comm,and_comm (a:=¬ _)]
 by_cases h:okI (a+b)
 ·rw [if_neg (fun q=>hk.1 q h),if_pos h,h2 h]
  rfl
 ·rw [if_pos (hk.2 h),if_neg h]
theorem sub_r {a b:Int} (ha:okI a) (hb:okI b):g_ref_reckoned 6 a b=some (reckR (a - b)):=by
 obtain ⟨h1,h2⟩:=sub_ref ha hb (up_nat ha) (up_nat hb)
 unfold g_ref_reckoned g_ref_intOf reckR
 rw [if_pos rfl,Option.bind_some,if_pos (by decide),if_neg (by decide),letO_eq,letO_eq]
 generalize UInt64.ofInt a+9223372036854775808=x at *
 generalize UInt64.ofInt b+9223372036854775808=y at *
 have e0:(subB x y=0)↔¬ x.toNat < y.toNat:=by
  unfold subB
  split
  ·simp [*]
  ·simp [*]
 have e1:(subB x y=1)↔x.toNat < y.toNat:=by
  unfold subB
  split
  ·simp [*]
  ·simp [*]
 have hk:((subB x y=0∧(9223372036854775808:UInt64)≤x - y)∨(subB x y=1∧x - y < (9223372036854775808:UInt64)))↔¬ okI (a - b):=by
  rw [e0,e1,top_lt2,top_le2,← h1,and_comm,and_comm (a:=x.toNat < _)]
 by_cases h:okI (a - b)
 ·rw [if_neg (fun q=>hk.1 q h),if_pos h,h2 h]
  rfl
 ·rw [if_pos (hk.2 h),if_neg h]
theorem size_eq2 {a:Int} (ha:okI a):∃ n:UInt64,g_ref_sizeOf a=some n∧n.toNat=a.natAbs:=by
 unfold g_ref_sizeOf
 by_cases h:a < 0
 ·rw [if_pos h]; exact ⟨_,rfl,size_nat ha h⟩
 ·rw [if_neg h]; exact ⟨_,rfl,size_nat2 ha h⟩
theorem mul64_eq (x y:UInt64):∃ r:UInt64×UInt64,g_bits_Mul64 x y=some r∧r.1.toNat=x.toNat * y.toNat / 18446744073709551616∧r.2=x * y:=by
 unfold g_bits_Mul64
 rw [letO_eq,letO_eq,letO_eq]
 exact ⟨_,rfl,mul_hi x y rfl,rfl⟩
theorem signed_eq {m:Int} {n:UInt64} {s:Bool} (hn:n.toNat=m.natAbs) (hs:m≠0→(s=true↔m < 0)) (h0:m=0→True):g_ref_signed s n=some (reckR m):=by
 unfold g_ref_signed g_ref_intOf reckR
 cases s with
 | true =>
  have hm:m≤0:=by
   by_cases h:m=0
   ·omega
   ·have:=(hs h).1 rfl; omega
  by_cases h:okI m
  ·have h2:n.toNat≤9223372036854775808:=by unfold okI at h; omega
   rw [if_pos ⟨rfl,(le_top2 n).2 h2⟩,if_pos h,signed_neg h2,hn,show -(m.natAbs:Int)=m by omega]
   rfl
  ·have h2:¬ n.toNat≤9223372036854775808:=by unfold okI at h; omega
   rw [if_neg (fun q=>h2 ((le_top2 n).1 q.2)),if_neg (fun q=>by cases q.1),if_neg h]
 | false =>
  have hm:0≤m:=by
   by_cases h:m=0
   ·omega
   ·have:¬ m < 0:=fun q=>by cases (hs h).2 q
    omega
  rw [if_neg (fun q=>by cases q.1)]
  by_cases h:okI m
  ·have h2:n.toNat < 9223372036854775808:=by unfold okI at h; omega
   rw [if_pos ⟨rfl,(top_lt2 n).2 h2⟩,if_pos h,signed_pos h2,hn,show (m.natAbs:Int)=m by omega]
   rfl
  ·have h2:¬ n.toNat < 9223372036854775808:=by unfold okI at h; omega
   rw [if_neg (fun q=>h2 ((top_lt2 n).1 q.2)),if_neg h]
theorem mul_e {a b:Int} (ha:okI a) (hb:okI b):g_eval_reckon 7 ⟨2,a,0,[]⟩ ⟨2,b,0,[]⟩=some (reckR (a * b)):=by
 unfold g_eval_reckon g_eval_asked g_eval_number reckR
 dsimp only
 rw [Option.bind_some,if_neg ask22,if_neg nul22,if_neg (by decide),if_neg (by decide),if_pos rfl]
 by_cases z:a=0∨b=0
 ·have e:a * b=0:=by rcases z with rfl | rfl<;>simp
  rw [if_pos z,e,if_pos (by decide)]
  rfl
 rw [if_neg z]
 have b0:b≠0:=fun q=>z (.inr q)
 have leaf:∀ (_:¬ (b = -1∧a = -9223372036854775808)),decide (w64 ((w64 (a * b)).tdiv b)=a)=decide (okI (a * b)):=fun hy=>decide_eq_decide.2 (mul_code ha hb b0 hy)
 have fin:∀ g:Bool,g=decide (okI (a * b))→((some g).bind fun g'6=>(if g'6=true then (some ({ { GValue.zero with Kind:=(2:Int) } with Int_:=w64 (a * b) })).bind fun r'7=>some (.inl (r'7,(0:Int))) else some (.inr ())):Option ((GValue×Int)⊕Unit))=some (if okI (a * b) then .inl (⟨2,a * b,0,[]⟩,0) else .inr ()):=by
  intro g hg
  subst hg
  by_cases h:okI (a * b)
  ·rw [decide_eq_true h,if_pos h,w64_id h]; rfl
  ·rw [decide_eq_false h,if_neg h]; rfl
 have out:∀ x:Option ((GValue×Int)⊕Unit),x=some (if okI (a * b) then .inl (⟨2,a * b,0,[]⟩,0) else .inr ())→(x.bind fun o'10=>match o'10 with | .inl y'9=>some y'9 | .inr j'2=>some (GValue.zero,(6:Int)))=some (if okI (a * b) then (⟨2,a * b,0,[]⟩,0) else (GValue.zero,6)):=by
  intro x hx
  rw [hx]
  by_cases h:okI (a * b)
  ·rw [if_pos h,if_pos h]; rfl
  ·rw [if_neg h,if_neg h]; rfl
 refine out _ ?_
 by_cases a1:a = -1
 ·rw [if_pos a1]
  by_cases bm:b = -9223372036854775808
  ·rw [if_pos bm]
   exact fin false (by rw [decide_eq_false]; subst a1 bm; decide)
  ·rw [if_neg bm]
   by_cases b1:b = -1
   ·rw [if_pos b1,if_neg (show ¬ a = -9223372036854775808 by omega),if_pos b0]
    exact fin _ (leaf (by omega))
   ·rw [if_neg b1,if_pos (by decide),if_pos b0]
    exact fin _ (leaf (by omega))
 ·rw [if_neg a1,if_pos (by decide)]
  by_cases b1:b = -1
  ·rw [if_pos b1]
   by_cases am:a = -9223372036854775808
   ·rw [if_pos am]
    exact fin false (by rw [decide_eq_false]; subst b1 am; decide)
   ·rw [if_neg am,if_pos b0]
    exact fin _ (leaf (by omega))
  ·rw [if_neg b1,if_pos b0]
   exact fin _ (leaf (by omega))
theorem mul_r {a b:Int} (ha:okI a) (hb:okI b):g_ref_reckoned 7 a b=some (reckR (a * b)):=by
 obtain ⟨x,hx,nx⟩:=size_eq2 ha
 obtain ⟨y,hy,ny⟩:=size_eq2 hb
 obtain ⟨r,hr,n1,n2⟩:=mul64_eq x y
 have hm:(a * b).natAbs=x.toNat * y.toNat:=by rw [nx,ny,Int.natAbs_mul]
 unfold g_ref_reckoned
 rw [if_neg (by decide),Option.bind_some,if_neg (by decide),if_pos rfl,hx,hy,Option.bind_some,Option.bind_some,hr,Option.bind_some]
 by_cases h:r.1=0
 ·have h3:x.toNat * y.toNat < 18446744073709551616:=by
   have:x.toNat * y.toNat / 18446744073709551616=0:=by rw [← n1,h]; rfl
   omega
  have hs:a * b≠0→((decide ((decide (a < (0:Int)))≠(decide (b < (0:Int)))))=true↔a * b < 0):=by
   intro h0
   have a0:a≠0:=fun q=>h0 (by rw [q,Int.zero_mul])
   have b0:b≠0:=fun q=>h0 (by rw [q,Int.mul_zero])
   rw [decide_eq_true_eq]
   exact mul_sign a0 b0
  rw [if_neg (fun q=>q h),signed_eq (m:=a * b) (by rw [n2,u64mul h3,hm]) hs (fun _=>trivial)]
  rfl
 ·have h3:¬ x.toNat * y.toNat < 18446744073709551616:=by
   intro q
   refine h (UInt64.toNat_inj.1 ?_)
   rw [n1]
   show _=0
   omega
  have hk:¬ okI (a * b):=by unfold okI; omega
  rw [if_pos h]
  unfold reckR
  rw [if_neg hk]
theorem div_e {a b:Int} (ha:okI a) (hb:okI b):g_eval_reckon 8 ⟨2,a,0,[]⟩ ⟨2,b,0,[]⟩=some (if b=0 then (GValue.zero,7) else reckR (a.tdiv b)):=by
 unfold g_eval_reckon g_eval_asked g_eval_number reckR
 dsimp only
 rw [Option.bind_some,if_neg ask22,if_neg nul22,if_neg (by decide),if_neg (by decide),if_neg (by decide)]
 by_cases b0:b=0
 ·rw [if_pos b0,if_pos b0]; rfl
 rw [if_neg b0,if_neg b0]
 by_cases h:a = -9223372036854775808∧b = -1
 ·rw [if_neg (fun q=>q h),if_neg (by obtain ⟨rfl,rfl⟩:=h; decide)]
  rfl
 ·have hk:=tdiv_ok ha hb b0 h
  rw [if_pos h,if_pos b0,if_pos hk,w64_id hk]
  rfl
theorem tdiv_sign {a b:Int} (h:a.tdiv b≠0):(decide (a < 0)≠decide (b < 0))↔a.tdiv b < 0:=by
 have hz:∀ {m n:Nat},m / n≠0→0 < m∧0 < n:=by
  intro m n q
  refine ⟨?_,?_⟩
  ·rcases Nat.eq_zero_or_pos m with rfl | h
   ·simp at q
   ·exact h
  ·rcases Nat.eq_zero_or_pos n with rfl | h
   ·simp at q
   ·exact h
 have e1:∀ m n:Nat,(m:Int).tdiv (n:Int)=((m / n:Nat):Int):=fun _ _=>rfl
 rw [Ne,decide_eq_decide]
 obtain ⟨m,rfl | rfl⟩:=Int.eq_nat_or_neg a<;>obtain ⟨n,rfl | rfl⟩:=Int.eq_nat_or_neg b
 ·rw [e1] at *
  have hz:=hz (m:=m) (n:=n)
  generalize m / n=q at *
  have hz:=hz (by omega)
  omega
 ·rw [Int.tdiv_neg,e1] at *
  have hz:=hz (m:=m) (n:=n)
  generalize m / n=q at *
  have hz:=hz (by omega)
  omega
 ·rw [Int.neg_tdiv,e1] at *
  have hz:=hz (m:=m) (n:=n)
  generalize m / n=q at *
  have hz:=hz (by omega)
  omega
 ·rw [Int.neg_tdiv,Int.tdiv_neg,e1] at *
  have hz:=hz (m:=m) (n:=n)
  generalize m / n=q at *
  have hz:=hz (by omega)
  omega
theorem div_r {a b:Int} (ha:okI a) (hb:okI b):g_ref_reckoned 8 a b=some (if b=0 then (GValue.zero,7) else reckR (a.tdiv b)):=by
 obtain ⟨x,hx,nx⟩:=size_eq2 ha
 obtain ⟨y,hy,ny⟩:=size_eq2 hb
 unfold g_ref_reckoned
 rw [if_neg (by decide),Option.bind_some,if_neg (by decide),if_neg (by decide)]
 by_cases b0:b=0
 ·rw [if_pos b0,if_pos b0]
 have y0:y≠0:=fun q=>b0 (by
  have:y.toNat=0:=by rw [q]; rfl
  omega)
 have hq:(a.tdiv b).natAbs=a.natAbs / b.natAbs:=Int.natAbs_tdiv a b
 have hs:a.tdiv b≠0→((decide ((decide (a < (0:Int)))≠(decide (b < (0:Int)))))=true↔a.tdiv b < 0):=by
  intro h0
  rw [decide_eq_true_eq]
  exact tdiv_sign h0
 rw [if_neg b0,if_neg b0,hx,hy,Option.bind_some,Option.bind_some,if_pos y0,signed_eq (m:=a.tdiv b) (by rw [UInt64.toNat_div,nx,ny,hq]) hs (fun _=>trivial)]
 rfl
end Go.Proofs.YthnkbagmaljjjaaGreatDoor.VM

/- Words and rules that the proof uses. -/
namespace Go.Proofs.YthnkbagmaljjjaaGreatDoor.VM
open Go Go.RowKit
theorem checkN_mono {n m b1 b2 b3 c1 c2 c3 sz lo hi k:Nat} (h:Lib.checkN n b1 b2 b3 sz lo hi=some k) (hm:n≤m) (h1:1 < n→c1=b1) (h2:2 < n→c2=b2) (h3:3 < n→c3=b3):Lib.checkN m c1 c2 c3 sz lo hi=some k∧2≤k∧k≤n:=by
 unfold Lib.checkN at *
 by_cases s2:sz=2
 ·rw [if_pos s2] at *
  split at h
  ·cases h
  ·rename_i g
   cases h
   rw [h1 (by omega),if_neg (by omega)]
   exact ⟨rfl,by omega,by omega⟩
 rw [if_neg s2] at *
 by_cases s3:sz=3
 ·rw [if_pos s3] at *
  split at h
  ·cases h
  ·rename_i g
   cases h
   rw [h1 (by omega),h2 (by omega),if_neg (by omega)]
   exact ⟨rfl,by omega,by omega⟩
 rw [if_neg s3] at *
 by_cases s4:sz=4
 ·rw [if_pos s4] at *
  split at h
  ·cases h
  ·rename_i g
   cases h
   rw [h1 (by omega),h2 (by omega),h3 (by omega),if_neg (by omega)]
   exact ⟨rfl,by omega,by omega⟩
 rw [if_neg s4] at h
 cases h
theorem getD_app {a b:List UInt8} {i:Nat} (h:i < a.length):(a++b).getD i 0=a.getD i 0:=by
 simp [List.getD,List.getElem?_append_left h]
theorem validD_app:∀ (n:Nat) (a b:List UInt8),a.length≤n→Lib.validD a=true→Lib.validD b=true→Lib.validD (a++b)=true
 | _,[],b,_,_,hb=>hb
 | 0,x::a,_,h,_,_=>by cases h
 | n+1,x::a,b,h,ha,hb=>by
  have hl:(x::a).length=a.length+1:=rfl
  by_cases hx:x.toNat < 128
  ·rw [Lib.validD_cons x a hx] at ha
   rw [List.cons_append,Lib.validD_cons x (a++b) hx]
   exact validD_app n a b (by omega) ha hb
  ·have e0:((x::a)++b).getD 0 0=x:=rfl
   have e1:(x::a).getD 0 0=x:=rfl
   rw [Lib.validD_lead (x::a) (by simp) (by rw [e1]; omega)] at ha
   rw [Lib.validD_lead ((x::a)++b) (by simp) (by rw [e0]; omega)]
   rw [e1] at ha
   rw [e0]
   cases hc:Lib.checkN (x::a).length ((x::a).getD 1 0).toNat ((x::a).getD 2 0).toNat ((x::a).getD 3 0).toNat (Lib.firstT x.toNat % 8) (Lib.accLo (Lib.firstT x.toNat / 16)) (Lib.accHi (Lib.firstT x.toNat / 16)) with
   | none=>rw [hc] at ha; cases ha
   | some k =>
    rw [hc] at ha
    obtain ⟨g1,g2,g3⟩:=checkN_mono (m:=((x::a)++b).length) (c1:=(((x::a)++b).getD 1 0).toNat) (c2:=(((x::a)++b).getD 2 0).toNat) (c3:=(((x::a)++b).getD 3 0).toNat) hc (by rw [List.length_append]; omega) (fun q=>by rw [getD_app q]) (fun q=>by rw [getD_app q]) (fun q=>by rw [getD_app q])
    rw [g1]
    dsimp only at ha ⊢
    rw [List.drop_append_of_le_length g3]
    exact validD_app n _ b (by rw [List.length_drop]; omega) ha hb
theorem valid_app {a b:List UInt8} (hl:(a++b).length≤9223372036854775807) (ha:g_utf8_ValidString a=some true) (hb:g_utf8_ValidString b=some true):g_utf8_ValidString (a++b)=some true:=by
 unfold g_utf8_ValidString at *
 rw [List.length_append] at hl
 rw [if_pos (by omega)] at ha hb
 rw [if_pos (by rw [List.length_append]; omega),validD_app _ a b (Nat.le_refl _) (Option.some.inj ha) (Option.some.inj hb)]
end Go.Proofs.YthnkbagmaljjjaaGreatDoor.VM

/- Words and rules that the proof uses. -/
namespace Go.Proofs.YthnkbagmaljjjaaGreatDoor.VM
open Go Go.RowKit
inductive CanV:GValue→Prop
 | null:CanV ⟨0,0,0,[]⟩
 | bool (b:Bool):CanV ⟨1,if b then 1 else 0,0,[]⟩
 | int (n:Int) (h:okI n):CanV ⟨2,n,0,[]⟩
 | real (b:UInt64) (h:¬ ((b=(9223372036854775808:UInt64))∨((18437736874454810624:UInt64) < shl_u64 b 1))):CanV ⟨3,0,b,[]⟩
 | text (t:List UInt8) (h:t.length≤40) (u:g_utf8_ValidString t=some true):CanV ⟨4,0,0,t⟩
inductive OkR (G:Int):GValue×Int→Prop
 | ok {v:GValue} (c:CanV v) (k:v.Kind=0∨v.Kind=G):OkR G (v,0)
 | bad {e:Int} (h:e≠0):OkR G (GValue.zero,e)
theorem OkR.can {G:Int} {r:GValue×Int} (h:OkR G r) (h0:r.2=0):CanV r.1:=by
 cases h with
 | ok c k=>exact c
 | bad h=>exact absurd h0 h
theorem OkR.kind {G:Int} {r:GValue×Int} (h:OkR G r):r.1.Kind=0∨r.1.Kind=G:=by
 cases h with
 | ok c k=>exact k
 | bad h=>exact .inl rfl
theorem did_step0 (v w:GValue) (r:Int×Int):g_ref_did_l0 v w r 0=if ((r.1≠0)∧(v.Kind≠0))∧(v.Kind≠r.1) then some (.inr (.inl (GValue.zero,2))) else some (.inl 1):=by
 unfold g_ref_did_l0
 dsimp only
 rw [if_pos (show (0:Int) < (([v,w]:List GValue).length:Int) by simp),if_pos (show (0:Int)≤0∧(0:Int) < (([v,w]:List GValue).length:Int) by simp)]
 rfl
theorem did_step1 (v w:GValue) (r:Int×Int):g_ref_did_l0 v w r 1=if ((r.1≠0)∧(w.Kind≠0))∧(w.Kind≠r.1) then some (.inr (.inl (GValue.zero,2))) else some (.inl 2):=by
 unfold g_ref_did_l0
 dsimp only
 rw [if_pos (show (1:Int) < (([v,w]:List GValue).length:Int) by simp),if_pos (show (0:Int)≤1∧(1:Int) < (([v,w]:List GValue).length:Int) by simp)]
 rfl
theorem did_step2 (v w:GValue) (r:Int×Int):g_ref_did_l0 v w r 2=some (.inr (.inr ())):=by
 unfold g_ref_did_l0
 dsimp only
 rw [if_neg (show ¬ (2:Int) < (([v,w]:List GValue).length:Int) by simp)]
abbrev clashes (A:Int) (v:GValue):Prop:=((A≠0)∧(v.Kind≠0))∧(v.Kind≠A)
theorem did_ask (v w:GValue) (A G:Int):loopO (g_ref_did_l0 v w (A,G)) (0:Int)=some (if clashes A v∨clashes A w then .inl (GValue.zero,2) else .inr ()):=by
 by_cases h:clashes A v
 ·rw [loopO_done (r:=.inl (GValue.zero,2)) (by rw [did_step0,if_pos h]),if_pos (.inl h)]
 ·rw [loopO_next (b:=1) (by rw [did_step0,if_neg h])]
  by_cases h2:clashes A w
  ·rw [loopO_done (r:=.inl (GValue.zero,2)) (by rw [did_step1,if_pos h2]),if_pos (.inr h2)]
  ·rw [loopO_next (b:=2) (by rw [did_step1,if_neg h2]),loopO_done (r:=.inr ()) (did_step2 _ _ _),if_neg (fun q=>q.elim h h2)]
theorem asked_eq (A:Int) (hA:A≠0) (v w:GValue):g_eval_asked A v w=some (decide (¬ (clashes A v∨clashes A w))):=by
 unfold g_eval_asked
 congr 1
 apply decide_eq_decide.2
 constructor
 ·rintro ⟨h1,h2⟩ (⟨⟨_,h3⟩,h4⟩ | ⟨⟨_,h3⟩,h4⟩)
  ·exact h1.elim h3 h4
  ·exact h2.elim h3 h4
 ·intro h
  constructor
  ·by_cases h1:v.Kind=0
   ·exact .inl h1
   ·by_cases h2:v.Kind=A
    ·exact .inr h2
    ·exact absurd (.inl ⟨⟨hA,h1⟩,h2⟩) h
  ·by_cases h1:w.Kind=0
   ·exact .inl h1
   ·by_cases h2:w.Kind=A
    ·exact .inr h2
    ·exact absurd (.inr ⟨⟨hA,h1⟩,h2⟩) h
theorem asks_arith {op:Int} (h:op=5∨op=6∨op=7∨op=8):g_ref_asksFor op=some (2,2):=by
 rcases h with rfl | rfl | rfl | rfl<;>rfl
theorem two_arith {op:Int} (h:op=5∨op=6∨op=7∨op=8) (v w:GValue):g_eval_two op v w=g_eval_reckon op v w:=by
 unfold g_eval_two
 have e:∀ x:Option (GValue×Int),(x.bind fun r'5=>some (r'5.1,r'5.2))=x:=by intro x; cases x<;>rfl
 rcases h with rfl | rfl | rfl | rfl<;>exact e _
theorem bpair (x:Option (GValue×Int)):(x.bind fun r=>some (r.1,r.2))=x:=by cases x<;>rfl
theorem did_arith {op:Int} (h:op=5∨op=6∨op=7∨op=8) (v w:GValue):g_ref_did op v w=if clashes 2 v∨clashes 2 w then some (GValue.zero,2) else if v.Kind=0∨w.Kind=0 then some (GValue.zero,0) else g_ref_reckoned op v.Int_ w.Int_:=by
 unfold g_ref_did
 rw [asks_arith h,Option.bind_some,did_ask,Option.bind_some]
 by_cases hc:clashes 2 v∨clashes 2 w
 ·rw [if_pos hc,if_pos hc]
 ·rw [if_neg hc,if_neg hc]
  rcases h with rfl | rfl | rfl | rfl
  all_goals
   by_cases hn:v.Kind=0∨w.Kind=0
   ·rw [if_pos hn]
    have hn2:∀ k:Int,k≠3→k≠18→(v.Kind=0∨((w.Kind=0∧k≠3)∧k≠18)):=fun k h1 h2=>hn.imp id fun q=>⟨⟨q,h1⟩,h2⟩
    have h1:=hn2 5 (by decide) (by decide)
    have h2:=hn2 6 (by decide) (by decide)
    have h3:=hn2 7 (by decide) (by decide)
    have h4:=hn2 8 (by decide) (by decide)
    show (if _ then _ else _)=_
    first | rw [if_pos h1] | rw [if_pos h2] | rw [if_pos h3] | rw [if_pos h4]
    rfl
   ·rw [if_neg hn]
    have hn2:∀ k:Int,¬ (v.Kind=0∨((w.Kind=0∧k≠3)∧k≠18)):=fun k q=>hn (q.imp id fun z=>z.1.1)
    show (if _ then _ else _)=_
    rw [if_neg (hn2 _)]
    rw [if_neg (by decide)]
    rw [if_neg (by decide),Option.bind_some,if_neg (by decide),if_neg (by decide),if_neg (by decide),if_neg (by decide),if_neg (by decide),if_neg (by decide)]
    first
     | (rw [if_pos rfl,Option.bind_some,if_pos (by decide),bpair]; done)
     | (rw [if_neg (by decide),if_pos rfl,Option.bind_some,if_pos (by decide),bpair]; done)
     | (rw [if_neg (by decide),if_neg (by decide),if_pos rfl,Option.bind_some,if_pos (by decide),bpair]; done)
     | (rw [if_neg (by decide),if_neg (by decide),if_neg (by decide),Option.bind_some,if_pos (by decide),bpair]; done)
theorem kind_two {v:GValue} (c:CanV v) (h:¬ clashes 2 v) (h0:¬ v.Kind=0):∃ a,v=⟨2,a,0,[]⟩∧okI a:=by
 cases c with
 | null=>exact absurd rfl h0
 | int n hn=>exact ⟨n,rfl,hn⟩
 | bool b=>exact absurd (show clashes 2 _ from ⟨⟨by decide,h0⟩,show ¬ (1:Int)=2 by decide⟩) h
 | real b hb=>exact absurd (show clashes 2 _ from ⟨⟨by decide,h0⟩,show ¬ (3:Int)=2 by decide⟩) h
 | text t ht hu=>exact absurd (show clashes 2 _ from ⟨⟨by decide,h0⟩,show ¬ (4:Int)=2 by decide⟩) h
theorem reck_ok {n:Int}:OkR 2 (reckR n):=by
 unfold reckR
 by_cases hk:okI n
 ·rw [if_pos hk]; exact .ok (.int n hk) (.inr rfl)
 ·rw [if_neg hk]; exact .bad (by decide)
theorem reck_front (op:Int) (v w:GValue) (hc:clashes 2 v∨clashes 2 w):g_eval_reckon op v w=some (GValue.zero,2):=by
 unfold g_eval_reckon
 rw [asked_eq 2 (by decide),Option.bind_some,decide_eq_false (fun q=>q hc)]
 rfl
theorem reck_null (op:Int) (v w:GValue) (hc:¬ (clashes 2 v∨clashes 2 w)) (hn:v.Kind=0∨w.Kind=0):g_eval_reckon op v w=some (GValue.zero,0):=by
 unfold g_eval_reckon
 rw [asked_eq 2 (by decide),Option.bind_some,decide_eq_true hc,if_neg (by decide),if_pos hn]
theorem arith_eq {op:Int} (h:op=5∨op=6∨op=7∨op=8) {v w:GValue} (cv:CanV v) (cw:CanV w):∃ r,g_eval_two op v w=some r∧g_ref_did op v w=some r∧OkR 2 r:=by
 rw [two_arith h,did_arith h]
 by_cases hc:clashes 2 v∨clashes 2 w
 ·rw [if_pos hc,reck_front op v w hc]
  exact ⟨_,rfl,rfl,.bad (by decide)⟩
 rw [if_neg hc]
 by_cases hn:v.Kind=0∨w.Kind=0
 ·rw [if_pos hn,reck_null op v w hc hn]
  exact ⟨_,rfl,rfl,.ok .null (.inl rfl)⟩
 rw [if_neg hn]
 obtain ⟨a,rfl,ha⟩:=kind_two cv (fun q=>hc (.inl q)) (fun q=>hn (.inl q))
 obtain ⟨b,rfl,hb⟩:=kind_two cw (fun q=>hc (.inr q)) (fun q=>hn (.inr q))
 rcases h with rfl | rfl | rfl | rfl
 ·exact ⟨_,add_e ha hb,add_r ha hb,reck_ok⟩
 ·exact ⟨_,sub_e ha hb,sub_r ha hb,reck_ok⟩
 ·exact ⟨_,mul_e ha hb,mul_r ha hb,reck_ok⟩
 ·refine ⟨_,div_e ha hb,div_r ha hb,?_⟩
  by_cases b0:b=0
  ·rw [if_pos b0]; exact .bad (by decide)
  ·rw [if_neg b0]; exact reck_ok
end Go.Proofs.YthnkbagmaljjjaaGreatDoor.VM

/- Words and rules that the proof uses. -/
namespace Go.Proofs.YthnkbagmaljjjaaGreatDoor.VM
open Go Go.RowKit
theorem truth_two {a b:Int} (ha:¬ (a < 0∨a > 2)) (hb:¬ (b < 0∨b > 2)):g_value_truth [a,b]=some 0:=by
 unfold g_value_truth
 rw [loopO_next (b:=1),loopO_next (b:=2),loopO_done (r:=.inr ())]
 ·rfl
 ·unfold g_value_truth_l0
  dsimp only
  rw [if_neg (show ¬ (2:Int) < (([a,b]:List Int).length:Int) by simp)]
 ·unfold g_value_truth_l0
  dsimp only
  rw [if_pos (show (1:Int) < (([a,b]:List Int).length:Int) by simp),if_pos (show (0:Int)≤1∧(1:Int) < (([a,b]:List Int).length:Int) by simp),if_neg (show ¬ (lrd [a,b] (1:Int).toNat < 0∨lrd [a,b] (1:Int).toNat > 2) from hb)]
  rfl
 ·unfold g_value_truth_l0
  dsimp only
  rw [if_pos (show (0:Int) < (([a,b]:List Int).length:Int) by simp),if_pos (show (0:Int)≤0∧(0:Int) < (([a,b]:List Int).length:Int) by simp),if_neg (show ¬ (lrd [a,b] (0:Int).toNat < 0∨lrd [a,b] (0:Int).toNat > 2) from ha)]
  rfl
theorem truth_one {a:Int} (ha:¬ (a < 0∨a > 2)):g_value_truth [a]=some 0:=by
 unfold g_value_truth
 rw [loopO_next (b:=1),loopO_done (r:=.inr ())]
 ·rfl
 ·unfold g_value_truth_l0
  dsimp only
  rw [if_neg (show ¬ (1:Int) < (([a]:List Int).length:Int) by simp)]
 ·unfold g_value_truth_l0
  dsimp only
  rw [if_pos (show (0:Int) < (([a]:List Int).length:Int) by simp),if_pos (show (0:Int)≤0∧(0:Int) < (([a]:List Int).length:Int) by simp),if_neg (show ¬ (lrd [a] (0:Int).toNat < 0∨lrd [a] (0:Int).toNat > 2) from ha)]
  rfl
theorem and_ok {a b:Int} (ha:¬ (a < 0∨a > 2)) (hb:¬ (b < 0∨b > 2)):g_value_And a b=some (imin a b,0):=by
 unfold g_value_And
 rw [truth_two ha hb,Option.bind_some,if_neg (by decide)]
theorem or_ok {a b:Int} (ha:¬ (a < 0∨a > 2)) (hb:¬ (b < 0∨b > 2)):g_value_Or a b=some (imax a b,0):=by
 unfold g_value_Or
 rw [truth_two ha hb,Option.bind_some,if_neg (by decide)]
theorem not_ok {a:Int} (ha:¬ (a < 0∨a > 2)):g_value_Not a=some (w64 (2 - a),0):=by
 unfold g_value_Not
 rw [truth_one ha,Option.bind_some,if_neg (by decide)]
def trN:Option Bool→Int
 | none=>1
 | some true=>2
 | some false=>0
def trV:Option Bool→GValue
 | none=>⟨0,0,0,[]⟩
 | some b=>⟨1,if b then 1 else 0,0,[]⟩
theorem trN_in (x:Option Bool):¬ (trN x < 0∨trN x > 2):=by rcases x with _ | (_ | _)<;>decide
theorem trV_can (x:Option Bool):CanV (trV x):=by
 rcases x with _ | b
 ·exact .null
 ·exact .bool b
theorem trV_kind (x:Option Bool):(trV x).Kind=0∨(trV x).Kind=1:=by
 rcases x with _ | b
 ·exact .inl rfl
 ·exact .inr rfl
theorem kind_tr {v:GValue} (c:CanV v) (h:¬ clashes 1 v):∃ x,v=trV x:=by
 cases c with
 | null=>exact ⟨none,rfl⟩
 | bool b=>exact ⟨some b,rfl⟩
 | int n hn=>exact absurd (show clashes 1 _ from ⟨⟨by decide,show ¬ (2:Int)=0 by decide⟩,show ¬ (2:Int)=1 by decide⟩) h
 | real b hb=>exact absurd (show clashes 1 _ from ⟨⟨by decide,show ¬ (3:Int)=0 by decide⟩,show ¬ (3:Int)=1 by decide⟩) h
 | text t ht hu=>exact absurd (show clashes 1 _ from ⟨⟨by decide,show ¬ (4:Int)=0 by decide⟩,show ¬ (4:Int)=1 by decide⟩) h
theorem part_tr (x:Option Bool):g_eval_part (trV x)=some (trN x,true):=by rcases x with _ | (_ | _)<;>rfl
theorem truthOf_tr (x:Option Bool):g_ref_truthOf (trV x)=some (trN x):=by rcases x with _ | (_ | _)<;>rfl
theorem truth_tr (x:Option Bool):g_eval_truth (trN x)=some (trV x):=by rcases x with _ | (_ | _)<;>rfl
theorem boolOf_tr (x:Option Bool):g_ref_boolOf (trN x)=some (trV x):=by rcases x with _ | (_ | _)<;>rfl
theorem part_clash {v:GValue} (c:CanV v) (h:clashes 1 v):g_eval_part v=some (0,false):=by
 cases c with
 | null=>exact absurd rfl h.1.2
 | bool b=>exact absurd rfl h.2
 | int n hn=>rfl
 | real b hb=>rfl
 | text t ht hu=>rfl
theorem part_any {v:GValue} (c:CanV v):∃ p,g_eval_part v=some p:=by
 by_cases h:clashes 1 v
 ·exact ⟨_,part_clash c h⟩
 ·obtain ⟨x,rfl⟩:=kind_tr c h
  exact ⟨_,part_tr x⟩
def andT:Option Bool→Option Bool→Option Bool
 | some false,_=>some false
 | _,some false=>some false
 | none,_=>none
 | _,none=>none
 | _,_=>some true
def orT:Option Bool→Option Bool→Option Bool
 | some true,_=>some true
 | _,some true=>some true
 | none,_=>none
 | _,none=>none
 | _,_=>some false
theorem logic_e (op:Int) (x y:Option Bool):g_eval_logic op (trV x) (trV y)=some (trV (if op=16 then orT x y else andT x y),0):=by
 unfold g_eval_logic
 rw [part_tr,part_tr,Option.bind_some,Option.bind_some,if_neg (by simp),and_ok (trN_in x) (trN_in y),Option.bind_some]
 by_cases h:op=16
 ·rw [if_pos h,or_ok (trN_in x) (trN_in y),if_pos h,Option.bind_some,Option.bind_some,show imax (trN x) (trN y)=trN (orT x y) by rcases x with _ | (_ | _)<;>rcases y with _ | (_ | _)<;>rfl,truth_tr]
  rfl
 ·rw [if_neg h,if_neg h,Option.bind_some,show imin (trN x) (trN y)=trN (andT x y) by rcases x with _ | (_ | _)<;>rcases y with _ | (_ | _)<;>rfl,truth_tr]
  rfl
theorem logic_clash (op:Int) {v w:GValue} (cv:CanV v) (cw:CanV w) (h:clashes 1 v∨clashes 1 w):g_eval_logic op v w=some (GValue.zero,2):=by
 obtain ⟨p,hp⟩:=part_any cv
 obtain ⟨q,hq⟩:=part_any cw
 unfold g_eval_logic
 rw [hp,hq,Option.bind_some,Option.bind_some,if_pos]
 rcases h with h | h
 ·rw [part_clash cv h] at hp
  cases hp
  exact .inl rfl
 ·rw [part_clash cw h] at hq
  cases hq
  exact .inr rfl
theorem logic_r (x y:Option Bool):g_ref_Logic 1 (trN x) (trN y)=some (trN (andT x y),0)∧g_ref_Logic 2 (trN x) (trN y)=some (trN (orT x y),0):=by
 rcases x with _ | (_ | _)<;>rcases y with _ | (_ | _)<;>exact ⟨rfl,rfl⟩
theorem two_logic {op:Int} (h:op=15∨op=16) (v w:GValue):g_eval_two op v w=g_eval_logic op v w:=by
 unfold g_eval_two
 rcases h with rfl | rfl
 ·rw [if_pos rfl,Option.bind_some,if_pos (by decide),bpair]
 ·rw [if_neg (by decide),Option.bind_some,if_pos (by decide),bpair]
theorem asks_logic {op:Int} (h:op=15∨op=16):g_ref_asksFor op=some (1,1):=by
 rcases h with rfl | rfl<;>rfl
theorem did_logic {op:Int} (h:op=15∨op=16) {v w:GValue} (cv:CanV v) (cw:CanV w):∃ r,g_eval_two op v w=some r∧g_ref_did op v w=some r∧OkR 1 r:=by
 rw [two_logic h]
 unfold g_ref_did
 rw [asks_logic h,Option.bind_some,did_ask,Option.bind_some]
 by_cases hc:clashes 1 v∨clashes 1 w
 ·rw [if_pos hc,logic_clash op cv cw hc]
  exact ⟨_,rfl,rfl,.bad (by decide)⟩
 ·obtain ⟨x,rfl⟩:=kind_tr cv (fun q=>hc (.inl q))
  obtain ⟨y,rfl⟩:=kind_tr cw (fun q=>hc (.inr q))
  rw [if_neg hc,logic_e]
  refine ⟨_,rfl,?_,.ok (trV_can _) (trV_kind _)⟩
  rcases h with rfl | rfl
  ·show (if (15:Int)=17 then _ else _)=_
   rw [if_neg (by decide),if_pos rfl,Option.bind_some,if_pos (by decide),truthOf_tr,truthOf_tr,Option.bind_some,Option.bind_some,show w64 (w64 ((1:Int)+15) - 15)=1 from rfl,(logic_r x y).1,Option.bind_some,boolOf_tr,if_neg (by decide)]
   rfl
  ·show (if (16:Int)=17 then _ else _)=_
   rw [if_neg (by decide),if_neg (by decide),Option.bind_some,if_pos (by decide),truthOf_tr,truthOf_tr,Option.bind_some,Option.bind_some,show w64 (w64 ((1:Int)+16) - 15)=2 from rfl,(logic_r x y).2,Option.bind_some,boolOf_tr,if_pos rfl]
   rfl
theorem did_coal {v w:GValue} (cw:CanV w):∃ r,g_eval_two 20 v w=some r∧g_ref_did 20 v w=some r∧OkR w.Kind r:=by
 refine ⟨(w,0),?_,?_,.ok cw (.inr rfl)⟩
 ·unfold g_eval_two
  rw [if_neg (by decide),Option.bind_some,if_neg (by decide),if_pos rfl]
 ·unfold g_ref_did
  rw [show g_ref_asksFor 20=some (0,0) from rfl,Option.bind_some,did_ask,Option.bind_some,if_neg (fun q=>by rcases q with q | q<;>exact q.1.1 rfl)]
  show (if (20:Int)=17 then _ else _)=_
  rw [if_neg (by decide),if_neg (by decide),Option.bind_some,if_neg (by decide),if_neg (by decide),if_pos rfl]
theorem kind_text {v:GValue} (c:CanV v) (h:¬ clashes 4 v) (h0:¬ v.Kind=0):∃ a,v=⟨4,0,0,a⟩∧a.length≤40∧g_utf8_ValidString a=some true:=by
 cases c with
 | null=>exact absurd rfl h0
 | text n hn hu=>exact ⟨n,rfl,hn,hu⟩
 | bool b=>exact absurd (show clashes 4 _ from ⟨⟨by decide,h0⟩,show ¬ (1:Int)=4 by decide⟩) h
 | real b hb=>exact absurd (show clashes 4 _ from ⟨⟨by decide,h0⟩,show ¬ (3:Int)=4 by decide⟩) h
 | int t ht=>exact absurd (show clashes 4 _ from ⟨⟨by decide,h0⟩,show ¬ (2:Int)=4 by decide⟩) h
theorem did_join {v w:GValue} (cv:CanV v) (cw:CanV w):∃ r,g_eval_two 19 v w=some r∧g_ref_did 19 v w=some r∧OkR 4 r:=by
 have e:g_eval_two 19 v w=g_eval_join v w:=by
  unfold g_eval_two
  rw [if_neg (by decide),Option.bind_some,if_neg (by decide),if_neg (by decide),if_pos rfl,bpair]
 rw [e]
 unfold g_eval_join g_ref_did
 rw [asked_eq 4 (by decide),show g_ref_asksFor 19=some (4,4) from rfl,Option.bind_some,Option.bind_some,did_ask,Option.bind_some]
 by_cases hc:clashes 4 v∨clashes 4 w
 ·rw [if_pos hc,decide_eq_false (fun q=>q hc)]
  exact ⟨_,rfl,rfl,.bad (by decide)⟩
 rw [if_neg hc,decide_eq_true hc,if_neg (by decide)]
 by_cases hn:v.Kind=0∨w.Kind=0
 ·rw [if_pos hn]
  refine ⟨_,rfl,?_,.ok .null (.inl rfl)⟩
  show (if (19:Int)=17 then _ else _)=_
  rw [if_neg (by decide),if_neg (by decide),Option.bind_some,if_neg (by decide),if_neg (by decide),if_neg (by decide),if_pos (hn.imp id fun q=>⟨⟨q,by decide⟩,by decide⟩)]
 rw [if_neg hn]
 obtain ⟨a,rfl,ha,ua⟩:=kind_text cv (fun q=>hc (.inl q)) (fun q=>hn (.inl q))
 obtain ⟨b,rfl,hb,ub⟩:=kind_text cw (fun q=>hc (.inr q)) (fun q=>hn (.inr q))
 dsimp only
 rw [w64_id (by omega)]
 refine ⟨if (a.length:Int)+(b.length:Int) > 40 then (GValue.zero,1) else (⟨4,0,0,a++b⟩,0),?_,?_,?_⟩
 ·by_cases hl:(a.length:Int)+(b.length:Int) > 40
  ·rw [if_pos hl,if_pos hl]
  ·rw [if_neg hl,if_neg hl,if_pos (by omega)]; rfl
 ·rw [if_neg (by decide),if_neg (by decide),Option.bind_some,if_neg (by decide),if_neg (by decide),if_neg (by decide),if_neg (by decide),if_neg (by decide),if_neg (by decide),if_pos rfl,if_pos (by omega)]
  by_cases hl:(a.length:Int)+(b.length:Int) > 40
  ·rw [if_pos (by rw [List.length_append]; omega),if_pos hl]
  ·rw [if_neg (by rw [List.length_append]; omega),if_neg hl]; rfl
 ·by_cases hl:(a.length:Int)+(b.length:Int) > 40
  ·rw [if_pos hl]; exact .bad (by decide)
  ·rw [if_neg hl]; exact .ok (.text _ (by rw [List.length_append]; omega) (valid_app (by rw [List.length_append]; omega) ua ub)) (.inr rfl)
end Go.Proofs.YthnkbagmaljjjaaGreatDoor.VM

/- Words and rules that the proof uses. -/
namespace Go.Proofs.YthnkbagmaljjjaaGreatDoor.VM
open Go Go.RowKit
theorem zero_fit (A:Int):¬ clashes A GValue.zero:=fun q=>q.1.2 rfl
theorem one_null {v:GValue} (c:CanV v) (h:v.Kind=0):v=GValue.zero:=by
 cases c with
 | null=>rfl
 | bool b=>exact absurd h (show ¬ (1:Int)=0 by decide)
 | int n hn=>exact absurd h (show ¬ (2:Int)=0 by decide)
 | real b hb=>exact absurd h (show ¬ (3:Int)=0 by decide)
 | text t ht hu=>exact absurd h (show ¬ (4:Int)=0 by decide)
theorem did_isnull (v:GValue):∃ r,g_eval_one 17 v=some r∧g_ref_did 17 v GValue.zero=some r∧OkR 1 r:=by
 unfold g_eval_one g_ref_did
 rw [if_pos rfl,show g_ref_asksFor 17=some (0,1) from rfl,Option.bind_some,did_ask,Option.bind_some,if_neg (show ¬ (clashes 0 v∨clashes 0 GValue.zero) from fun q=>q.elim (fun z=>z.1.1 rfl) (fun z=>z.1.1 rfl))]
 by_cases h:v.Kind=0
 ·refine ⟨(trV (some true),0),?_,?_,.ok (trV_can (some true)) (trV_kind _)⟩
  ·rw [if_pos h,show g_eval_truth (2:Int)=g_eval_truth (trN (some true)) from rfl,truth_tr]; rfl
  ·show (if (17:Int)=17 then _ else _)=_
   rw [if_pos rfl,if_pos h,show g_ref_boolOf (2:Int)=g_ref_boolOf (trN (some true)) from rfl,boolOf_tr]; rfl
 ·refine ⟨(trV (some false),0),?_,?_,.ok (trV_can (some false)) (trV_kind _)⟩
  ·rw [if_neg h,show g_eval_truth (0:Int)=g_eval_truth (trN (some false)) from rfl,truth_tr]; rfl
  ·show (if (17:Int)=17 then _ else _)=_
   rw [if_pos rfl,if_neg h,show g_ref_boolOf (0:Int)=g_ref_boolOf (trN (some false)) from rfl,boolOf_tr]; rfl
theorem did_not {v:GValue} (c:CanV v):∃ r,g_eval_one 4 v=some r∧g_ref_did 4 v GValue.zero=some r∧OkR 1 r:=by
 unfold g_eval_one g_ref_did
 rw [if_neg (by decide),if_pos rfl,Option.bind_some,show g_ref_asksFor 4=some (1,1) from rfl,Option.bind_some,did_ask,Option.bind_some]
 by_cases hc:clashes 1 v
 ·rw [if_neg hc.1.2,if_pos hc.2,if_pos (show clashes 1 v∨clashes 1 GValue.zero from .inl hc)]
  exact ⟨_,rfl,rfl,.bad (by decide)⟩
 rw [if_neg (show ¬ (clashes 1 v∨clashes 1 GValue.zero) from fun q=>q.elim hc (zero_fit 1))]
 obtain ⟨x,rfl⟩:=kind_tr c hc
 refine ⟨(trV (x.map (!·)),0),?_,?_,.ok (trV_can (x.map (!·))) (trV_kind _)⟩
 ·rcases x with _ | (_ | _)<;>rfl
 ·show (if (4:Int)=17 then _ else _)=_
  rw [if_neg (by decide),if_neg (by decide),Option.bind_some,if_neg (by decide),if_pos rfl,truthOf_tr,Option.bind_some]
  rcases x with _ | (_ | _)<;>rfl
theorem did_length {v:GValue} (c:CanV v):∃ r,g_eval_one 18 v=some r∧g_ref_did 18 v GValue.zero=some r∧OkR 2 r:=by
 unfold g_eval_one g_ref_did
 rw [if_neg (by decide),if_neg (by decide),if_pos rfl,Option.bind_some,show g_ref_asksFor 18=some (4,2) from rfl,Option.bind_some,did_ask,Option.bind_some]
 by_cases hc:clashes 4 v
 ·rw [if_neg hc.1.2,if_pos hc.2,if_pos (show clashes 4 v∨clashes 4 GValue.zero from .inl hc)]
  exact ⟨_,rfl,rfl,.bad (by decide)⟩
 rw [if_neg (show ¬ (clashes 4 v∨clashes 4 GValue.zero) from fun q=>q.elim hc (zero_fit 4))]
 by_cases h0:v.Kind=0
 ·obtain rfl:=one_null c h0
  exact ⟨(GValue.zero,0),rfl,rfl,.ok .null (.inl rfl)⟩
 obtain ⟨t,rfl,ht,_⟩:=kind_text c hc h0
 have hr:g_utf8_RuneCountInString t=some ((Lib.runeCount (strB t):Nat):Int):=by
  unfold g_utf8_RuneCountInString
  rw [if_pos (by omega)]
 have hk:okI ((Lib.runeCount (strB t):Nat):Int):=by
  have h1:=Lib.runeCount_le (strB t)
  have h2:(strB t).size=t.length:=by simp [strB,ByteArray.size]
  unfold okI
  omega
 dsimp only
 rw [if_neg h0,if_neg (by decide),if_neg (by decide),if_pos rfl,hr]
 refine ⟨(⟨2,((Lib.runeCount (strB t):Nat):Int),0,[]⟩,0),rfl,?_,.ok (.int _ hk) (.inr rfl)⟩
 rw [if_neg (by decide),if_neg (by decide),Option.bind_some,if_neg (by decide),if_neg (by decide),if_neg (by decide),if_neg (by simp),if_neg (by decide),if_pos rfl]
 rfl
theorem did_neg {v:GValue} (c:CanV v):∃ r,g_eval_one 3 v=some r∧g_ref_did 3 v GValue.zero=some r∧OkR 2 r:=by
 unfold g_eval_one g_ref_did
 rw [if_neg (by decide),if_neg (by decide),if_neg (by decide),Option.bind_some,show g_ref_asksFor 3=some (2,2) from rfl,Option.bind_some,did_ask,Option.bind_some]
 by_cases hc:clashes 2 v
 ·rw [if_neg hc.1.2,if_pos hc.2,if_pos (show clashes 2 v∨clashes 2 GValue.zero from .inl hc)]
  exact ⟨_,rfl,rfl,.bad (by decide)⟩
 rw [if_neg (show ¬ (clashes 2 v∨clashes 2 GValue.zero) from fun q=>q.elim hc (zero_fit 2))]
 by_cases h0:v.Kind=0
 ·obtain rfl:=one_null c h0
  exact ⟨(GValue.zero,0),rfl,rfl,.ok .null (.inl rfl)⟩
 obtain ⟨a,rfl,ha⟩:=kind_two c hc h0
 dsimp only
 rw [if_neg h0,if_neg (by decide),if_neg (by decide),if_neg (by decide)]
 refine ⟨reckR (0 - a),?_,?_,reck_ok⟩
 ·unfold reckR
  by_cases hm:a = -9223372036854775808
  ·rw [if_pos hm,if_neg (by unfold okI; omega)]
  ·have hk:okI (0 - a):=by unfold okI at *; omega
   rw [if_neg hm,if_pos hk,w64_id hk]; rfl
 ·rw [if_neg (by decide),if_neg (by decide),Option.bind_some,if_neg (by decide),if_neg (by decide),if_neg (by decide),if_neg (by simp),if_pos rfl,sub_r (by unfold okI; decide) ha]
  rfl
end Go.Proofs.YthnkbagmaljjjaaGreatDoor.VM

/- Words and rules that the proof uses. -/
namespace Go.Proofs.YthnkbagmaljjjaaGreatDoor.VM
open Go Go.RowKit
def ris (b:UInt64):UInt64:=if b < (9223372036854775808:UInt64) then b+9223372036854775808 else ~~~ b
theorem risen_eq (b:UInt64):g_ref_risen b=some (ris b):=by
 unfold g_ref_risen ris
 split<;>rfl
theorem ris_nat (b:UInt64):(ris b).toNat=if b.toNat < 9223372036854775808 then b.toNat+9223372036854775808 else 18446744073709551615 - b.toNat:=by
 have hb:b.toNat < 18446744073709551616:=b.toNat_lt
 unfold ris
 by_cases h:b.toNat < 9223372036854775808
 ·have h1:b < (9223372036854775808:UInt64):=UInt64.lt_iff_toNat_lt.2 h
  rw [if_pos h1,if_pos h,UInt64.toNat_add]
  show (b.toNat+9223372036854775808) % 2 ^ 64=_
  omega
 ·have h1:¬ b < (9223372036854775808:UInt64):=fun q=>h (UInt64.lt_iff_toNat_lt.1 q)
  rw [if_neg h1,if_neg h]
  show (~~~ b.toBitVec).toNat=_
  rw [BitVec.toNat_not]
  show 2 ^ 64 - 1 - b.toNat=_
  omega
theorem negF_iff (b:F64):negF b=true↔9223372036854775808≤b.toNat:=⟨Nat.le_of_ble_eq_true,Nat.ble_eq_true_of_le⟩
theorem ris_lt {a b:UInt64} (ha:¬ (a=(9223372036854775808:UInt64)∨(18437736874454810624:UInt64) < shl_u64 a 1)) (hb:¬ (b=(9223372036854775808:UInt64)∨(18437736874454810624:UInt64) < shl_u64 b 1)):(ris a < ris b↔skey a < skey b)∧rung a≤9218868437227405312∧rung b≤9218868437227405312:=by
 rw [top_iff,bad_iff] at ha hb
 have h1:a.toNat < 18446744073709551616:=a.toNat_lt
 have h2:b.toNat < 18446744073709551616:=b.toNat_lt
 refine ⟨?_,by omega,by omega⟩
 rw [UInt64.lt_iff_toNat_lt,ris_nat,ris_nat]
 unfold skey
 have ea:rung a=a.toNat % 9223372036854775808:=rfl
 have eb:rung b=b.toNat % 9223372036854775808:=rfl
 by_cases na:9223372036854775808≤a.toNat
 ·rw [if_pos ((negF_iff a).2 na),if_neg (by omega)]
  by_cases nb:9223372036854775808≤b.toNat
  ·rw [if_pos ((negF_iff b).2 nb),if_neg (by omega)]
   omega
  ·rw [if_neg (fun q=>nb ((negF_iff b).1 q)),if_pos (by omega)]
   omega
 ·rw [if_neg (fun q=>na ((negF_iff a).1 q)),if_pos (by omega)]
  by_cases nb:9223372036854775808≤b.toNat
  ·rw [if_pos ((negF_iff b).2 nb),if_neg (by omega)]
   omega
  ·rw [if_neg (fun q=>nb ((negF_iff b).1 q)),if_pos (by omega)]
   omega
theorem flt_eq {a b:F64} (ha:rung a≤9218868437227405312) (hb:rung b≤9218868437227405312):flt a b=decide (skey a < skey b):=by
 unfold flt
 rw [ford_eq ha hb]
 by_cases h:skey a < skey b
 ·rw [cmp_lt.2 h,decide_eq_true h]; rfl
 ·rw [decide_eq_false h]
  have:compare (skey a) (skey b)≠.lt:=fun q=>h (cmp_lt.1 q)
  revert this
  cases compare (skey a) (skey b)<;>simp
theorem fgt_eq {a b:F64} (ha:rung a≤9218868437227405312) (hb:rung b≤9218868437227405312):fgt a b=decide (skey b < skey a):=by
 unfold fgt
 rw [ford_eq ha hb]
 by_cases h:skey b < skey a
 ·rw [cmp_gt.2 h,decide_eq_true h]; rfl
 ·rw [decide_eq_false h]
  have:compare (skey a) (skey b)≠.gt:=fun q=>h (cmp_gt.1 q)
  revert this
  cases compare (skey a) (skey b)<;>simp
def cmpB (a b:List UInt8):Int:=if Op.bytesLess a b=true then -1 else if a=b then 0 else 1
theorem cmpB_pre:∀ (p x y:List UInt8),cmpB (p++x) (p++y)=cmpB x y
 | [],x,y=>rfl
 | c::p,x,y=>by
  rw [← cmpB_pre p x y]
  unfold cmpB
  simp [Op.bytesLess]
theorem cmpB_diff {c d:UInt8} (x y:List UInt8) (h:c≠d):cmpB (c::x) (d::y)=if c < d then -1 else 1:=by
 unfold cmpB
 simp [Op.bytesLess,h]
theorem cmpB_nil_l (x:List UInt8):cmpB [] x=if x.length=0 then 0 else -1:=by
 cases x with
 | nil=>rfl
 | cons c x=>rfl
theorem cmpB_nil_r (x:List UInt8):cmpB x []=if x.length=0 then 0 else 1:=by
 cases x with
 | nil=>rfl
 | cons c x=>simp [cmpB,Op.bytesLess]
theorem split_at {a:List UInt8} {k:Nat} (h:k < a.length):a=a.take k++lrd a k::a.drop (k+1):=by
 conv=>lhs; rw [← List.take_append_drop k a,List.drop_eq_getElem_cons h]
 simp [lrd,h]
theorem bytesOrder_eq (a b:List UInt8) (ha:a.length≤140737488355328) (hb:b.length≤140737488355328):g_ref_bytesOrder a b=some (cmpB a b):=by
 have:∃ r,loopO (g_ref_bytesOrder_l0 a b) (0:Int)=some r∧((r=.inl (cmpB a b))∨(r=.inr ()∧∃ k,a.take k=b.take k∧k≤a.length∧k≤b.length∧(k=a.length∨k=b.length))):=by
  refine loopO_rule (fun i:Int=>∃ k:Nat,i=(k:Int)∧a.take k=b.take k∧k≤a.length∧k≤b.length) _ (fun i=>a.length - i.toNat) (fun i hi=>?_) ⟨0,rfl,by simp,Nat.zero_le _,Nat.zero_le _⟩
  obtain ⟨k,rfl,h1,h2,h3⟩:=hi
  unfold g_ref_bytesOrder_l0
  dsimp only
  by_cases hc:k < a.length∧k < b.length
  ·rw [if_pos (by omega),if_pos (by omega),if_pos (by omega),Int.toNat_natCast]
   by_cases hd:lrd a k≠lrd b k
   ·rw [if_pos hd,if_pos (by omega),if_pos (by omega)]
    have e:cmpB a b=if lrd a k < lrd b k then -1 else 1:=by
     have e0:cmpB a b=cmpB (a.take k++lrd a k::a.drop (k+1)) (b.take k++lrd b k::b.drop (k+1)):=by rw [← split_at hc.1,← split_at hc.2]
     rw [e0,h1,cmpB_pre,cmpB_diff _ _ hd]
    rw [e]
    by_cases hlt:lrd a k < lrd b k
    ·rw [if_pos hlt,if_pos hlt]; exact .inr ⟨_,rfl,.inl rfl⟩
    ·rw [if_neg hlt,if_neg hlt]; exact .inr ⟨_,rfl,.inl rfl⟩
   ·rw [if_neg hd,w64_succ (by omega)]
    refine .inl ⟨_,rfl,⟨k+1,rfl,?_,by omega,by omega⟩,?_⟩
    ·rw [take_step hc.1,take_step hc.2,h1,Classical.not_not.1 hd]
    ·simp only [Int.toNat_natCast]; omega
  ·rw [if_neg (by omega)]
   exact .inr ⟨_,rfl,.inr ⟨rfl,k,h1,h2,h3,by omega⟩⟩
 obtain ⟨r,hr,h⟩:=this
 unfold g_ref_bytesOrder
 rw [hr]
 rcases h with rfl | ⟨rfl,k,h1,h2,h3,h4⟩
 ·rfl
 ·rw [Option.bind_some]
  dsimp only
  unfold g_ref_sign
  rw [w64_id (by omega)]
  rcases h4 with rfl | rfl
  ·rw [List.take_length] at h1
   have e:cmpB a b=cmpB [] (b.drop a.length):=by
    conv=>lhs; rw [← List.take_append_drop a.length b,← h1]; lhs; rw [← List.append_nil a]
    exact cmpB_pre a [] _
   rw [e,cmpB_nil_l,List.length_drop]
   by_cases hz:b.length - a.length=0
   ·rw [if_pos hz,if_neg (by omega),if_neg (by omega)]; rfl
   ·rw [if_neg hz,if_neg (by omega),if_pos (by omega)]; rfl
  ·rw [List.take_length] at h1
   have e:cmpB a b=cmpB (a.drop b.length) []:=by
    conv=>lhs; rw [← List.take_append_drop b.length a,h1]; rhs; rw [← List.append_nil b]
    exact cmpB_pre b _ []
   rw [e,cmpB_nil_r,List.length_drop]
   by_cases hz:a.length - b.length=0
   ·rw [if_pos hz,if_neg (by omega),if_neg (by omega)]; rfl
   ·rw [if_neg hz,if_pos (by omega)]; rfl
theorem shift_nat {n:Int} (h:okI n):((UInt64.ofInt n)+(9223372036854775808:UInt64)).toNat=(n+9223372036854775808).toNat:=by
 unfold okI at h
 rw [UInt64.toNat_add,u64i]
 show ((n % 18446744073709551616).toNat+9223372036854775808) % 2 ^ 64=_
 omega
theorem bitsOrder_eq (a b:UInt64):g_ref_bitsOrder a b=some (if a < b then -1 else if b < a then 1 else 0):=by
 unfold g_ref_bitsOrder
 split
 ·rfl
 ·split<;>rfl
theorem order_eq {a b:GValue} (ha:okV1 a) (hb:okV1 b) (ia:okI a.Int_) (ib:okI b.Int_):∃ r:Int,g_value_order a b=some r∧g_ref_Order a b=some r ∧ -1≤r:=by
 obtain ⟨a0,a1,a2,a3⟩:=ha
 obtain ⟨b0,b1,b2,b3⟩:=hb
 unfold g_value_order g_ref_Order
 by_cases hk:a.Kind≠b.Kind
 ·rw [if_pos hk,if_pos hk,Option.bind_some]
  unfold g_ref_sign
  rw [w64_id (by omega)]
  dsimp only
  by_cases hl:a.Kind < b.Kind
  ·rw [if_pos (decide_eq_true hl),if_neg (by omega),if_pos (by omega)]
   exact ⟨-1,rfl,rfl,by decide⟩
  ·rw [if_neg (by simpa using hl),if_pos (decide_eq_true (by omega)),if_pos (by omega)]
   exact ⟨1,rfl,rfl,by decide⟩
 ·rw [if_neg hk,if_neg hk]
  have hk:a.Kind=b.Kind:=Classical.not_not.1 hk
  by_cases h3:a.Kind=3
  ·rw [if_pos h3,if_pos h3,risen_eq,risen_eq,Option.bind_some,Option.bind_some,Option.bind_some,bitsOrder_eq,Option.bind_some]
   obtain ⟨r1,r2,r3⟩:=ris_lt (a3 h3) (b3 (by omega))
   obtain ⟨r4,_,_⟩:=ris_lt (b3 (by omega)) (a3 h3)
   dsimp only
   rw [flt_eq r2 r3,fgt_eq r2 r3]
   by_cases hl:skey a.Bits < skey b.Bits
   ·rw [if_pos (decide_eq_true hl),if_pos (r1.2 hl)]
    exact ⟨-1,rfl,rfl,by decide⟩
   ·rw [if_neg (by simpa using hl),if_neg (fun q=>hl (r1.1 q))]
    by_cases hg:skey b.Bits < skey a.Bits
    ·rw [if_pos (decide_eq_true hg),if_pos (r4.2 hg)]
     exact ⟨1,rfl,rfl,by decide⟩
    ·rw [if_neg (by simpa using hg),if_neg (fun q=>hg (r4.1 q))]
     exact ⟨0,rfl,rfl,by decide⟩
  ·rw [if_neg h3,if_neg h3]
   by_cases h4:a.Kind=4
   ·rw [if_pos h4,if_pos h4,bytesOrder_eq _ _ (by omega) (by omega),Option.bind_some,Option.bind_some]
    dsimp only
    unfold cmpB
    by_cases hl:Op.bytesLess a.Text b.Text=true
    ·rw [if_pos hl,if_pos hl]
     exact ⟨-1,rfl,rfl,by decide⟩
    ·rw [if_neg hl,if_neg hl]
     have hl:Op.bytesLess a.Text b.Text=false:=by simpa using hl
     rw [hl]
     by_cases he:a.Text=b.Text
     ·rw [if_pos he,if_neg (by simp [he])]
      exact ⟨0,rfl,rfl,by decide⟩
     ·rw [if_neg he,if_pos (by simp [he])]
      exact ⟨1,rfl,rfl,by decide⟩
   ·rw [if_neg h4,if_neg h4,bitsOrder_eq,Option.bind_some,Option.bind_some]
    dsimp only
    unfold okI at ia ib
    have e1:=shift_nat ia
    have e2:=shift_nat ib
    by_cases hl:a.Int_ < b.Int_
    ·rw [if_pos (decide_eq_true hl),if_pos (UInt64.lt_iff_toNat_lt.2 (by omega))]
     exact ⟨-1,rfl,rfl,by decide⟩
    ·have nl:¬ (UInt64.ofInt a.Int_+9223372036854775808 < UInt64.ofInt b.Int_+9223372036854775808):=fun q=>hl (by have:=UInt64.lt_iff_toNat_lt.1 q; omega)
     rw [if_neg (by simpa using hl),if_neg nl]
     by_cases hg:a.Int_ > b.Int_
     ·rw [if_pos (decide_eq_true hg),if_pos (UInt64.lt_iff_toNat_lt.2 (by omega))]
      exact ⟨1,rfl,rfl,by decide⟩
     ·have ng:¬ (UInt64.ofInt b.Int_+9223372036854775808 < UInt64.ofInt a.Int_+9223372036854775808):=fun q=>hg (by have:=UInt64.lt_iff_toNat_lt.1 q; omega)
      rw [if_neg (show ¬ (decide (a.Int_ > b.Int_)=true) by simpa using hg),if_neg ng]
      exact ⟨0,rfl,rfl,by decide⟩
end Go.Proofs.YthnkbagmaljjjaaGreatDoor.VM

/- Words and rules that the proof uses. -/
namespace Go.Proofs.YthnkbagmaljjjaaGreatDoor.VM
open Go Go.RowKit
theorem can_check {v:GValue} (c:CanV v):g_value_Check v=some 0:=by
 unfold g_value_Check
 cases c with
 | null=>rfl
 | bool b=>cases b<;>rfl
 | int n hn =>
  dsimp only
  rw [if_neg (by decide),if_neg (by simp),letO_eq,if_neg (by simp)]
  rfl
 | real b hb =>
  have hr:=real_bad b
  dsimp only
  rw [if_neg (by decide),if_neg (by simp),letO_eq,if_neg (by simp),if_neg (by decide),if_pos rfl,hr,decide_eq_false hb]
  rfl
 | text t ht hu =>
  dsimp only
  rw [if_neg (by decide),if_neg (by omega),letO_eq,if_neg (by simp),if_neg (by decide),if_neg (by decide),if_pos rfl,hu]
  rfl
theorem can_ok {v:GValue} (c:CanV v):okV1 v∧okI v.Int_:=by
 unfold okV1
 cases c with
 | null=>dsimp only; exact ⟨⟨by decide,by decide,by simp,fun q=>absurd q (by simp)⟩,by unfold okI; decide⟩
 | bool b=>dsimp only; exact ⟨⟨by decide,by decide,by simp,fun q=>absurd q (by simp)⟩,by unfold okI; cases b<;>decide⟩
 | int n hn=>dsimp only; exact ⟨⟨by decide,by decide,by simp,fun q=>absurd q (by simp)⟩,hn⟩
 | real b hb=>dsimp only; exact ⟨⟨by decide,by decide,by simp,fun _=>hb⟩,by unfold okI; omega⟩
 | text t ht hu=>dsimp only; exact ⟨⟨by decide,by decide,ht,fun q=>absurd q (by simp)⟩,by unfold okI; omega⟩
theorem cmpB_swap:∀ a b:List UInt8,cmpB b a = - cmpB a b
 | [],b=>by
  rw [cmpB_nil_l,cmpB_nil_r]
  split<;>rfl
 | c::x,[]=>by
  rw [cmpB_nil_l,cmpB_nil_r]
  split<;>rfl
 | c::x,d::y=>by
  by_cases h:c=d
  ·subst h
   have e1:=cmpB_pre [c] x y
   have e2:=cmpB_pre [c] y x
   rw [List.singleton_append,List.singleton_append] at e1 e2
   rw [e1,e2]
   exact cmpB_swap x y
  ·rw [cmpB_diff _ _ h,cmpB_diff _ _ (Ne.symm h)]
   have hn:c.toNat≠d.toNat:=fun q=>h (UInt8.toNat_inj.1 q)
   by_cases hl:c < d
   ·have:=UInt8.lt_iff_toNat_lt.1 hl
    rw [if_pos hl,if_neg (fun q=>by have:=UInt8.lt_iff_toNat_lt.1 q; omega)]
    rfl
   ·have:¬ c.toNat < d.toNat:=fun q=>hl (UInt8.lt_iff_toNat_lt.2 q)
    rw [if_neg hl,if_pos (UInt8.lt_iff_toNat_lt.2 (by omega))]
theorem cmpB_in (a b:List UInt8):cmpB a b = -1∨cmpB a b=0∨cmpB a b=1:=by
 unfold cmpB
 split
 ·exact .inl rfl
 ·split
  ·exact .inr (.inl rfl)
  ·exact .inr (.inr rfl)
theorem order_can {v w:GValue} (cv:CanV v) (cw:CanV w) (hk:v.Kind=w.Kind):∃ r:Int,g_value_order v w=some r∧g_value_order w v=some (-r)∧(r = -1∨r=0∨r=1):=by
 have ints:∀ (K a b:Int),K≠3→K≠4→∃ r:Int,g_value_order ⟨K,a,0,[]⟩ ⟨K,b,0,[]⟩=some r∧g_value_order ⟨K,b,0,[]⟩ ⟨K,a,0,[]⟩=some (-r)∧(r = -1∨r=0∨r=1):=by
  intro K a b h3 h4
  unfold g_value_order
  dsimp only
  rw [if_neg (fun q=>q rfl),if_neg h3,if_neg h4,if_neg (fun q=>q rfl),if_neg h3,if_neg h4,Option.bind_some,Option.bind_some]
  dsimp only
  by_cases h1:a < b
  ·refine ⟨-1,?_,?_,.inl rfl⟩
   ·rw [if_pos (decide_eq_true h1)]
   ·rw [if_neg (by simp; omega),if_pos (decide_eq_true h1)]; rfl
  ·by_cases h2:b < a
   ·refine ⟨1,?_,?_,.inr (.inr rfl)⟩
    ·rw [if_neg (by simpa using h1),if_pos (decide_eq_true h2)]
    ·rw [if_pos (decide_eq_true h2)]
   ·refine ⟨0,?_,?_,.inr (.inl rfl)⟩
    ·rw [if_neg (by simpa using h1),if_neg (by simp; omega)]
    ·rw [if_neg (by simp; omega),if_neg (by simp; omega)]; rfl
 cases cv<;>cases cw<;>simp at hk
 ·exact ints 0 0 0 (by decide) (by decide)
 ·exact ints 1 _ _ (by decide) (by decide)
 ·exact ints 2 _ _ (by decide) (by decide)
 ·rename_i a ha b hb
  obtain ⟨r1,r2,r3⟩:=ris_lt ha hb
  unfold g_value_order
  dsimp only
  rw [if_neg (fun q=>q rfl),if_pos rfl,if_neg (fun q=>q rfl),if_pos rfl,Option.bind_some,Option.bind_some]
  dsimp only
  rw [flt_eq r2 r3,fgt_eq r2 r3,flt_eq r3 r2,fgt_eq r3 r2]
  by_cases h1:skey a < skey b
  ·refine ⟨-1,?_,?_,.inl rfl⟩
   ·rw [if_pos (decide_eq_true h1)]
   ·rw [if_neg (by simp; omega),if_pos (decide_eq_true h1)]; rfl
  ·by_cases h2:skey b < skey a
   ·refine ⟨1,?_,?_,.inr (.inr rfl)⟩
    ·rw [if_neg (by simpa using h1),if_pos (decide_eq_true h2)]
    ·rw [if_pos (decide_eq_true h2)]
   ·refine ⟨0,?_,?_,.inr (.inl rfl)⟩
    ·rw [if_neg (by simpa using h1),if_neg (by simpa using h2)]
    ·rw [if_neg (by simpa using h2),if_neg (by simpa using h1)]; rfl
 ·rename_i a ha ua b hb ub
  have tx:∀ x y:List UInt8,g_value_order ⟨4,0,0,x⟩ ⟨4,0,0,y⟩=some (cmpB x y):=by
   intro x y
   unfold g_value_order cmpB
   dsimp only
   rw [if_neg (fun q=>q rfl),if_neg (by decide),if_pos rfl,Option.bind_some]
   dsimp only
   by_cases hl:Op.bytesLess x y=true
   ·rw [if_pos hl,if_pos hl]
   ·rw [if_neg hl,if_neg hl]
    have hl:Op.bytesLess x y=false:=by simpa using hl
    rw [hl]
    by_cases he:x=y
    ·rw [if_pos he,if_neg (by simp [he])]
    ·rw [if_neg he,if_pos (by simp [he])]
  exact ⟨cmpB a b,tx a b,by rw [tx b a,cmpB_swap],cmpB_in a b⟩
theorem both_can {v w:GValue} (cv:CanV v) (cw:CanV w):g_value_both v w=some 0:=by
 unfold g_value_both
 rw [can_check cv,can_check cw,Option.bind_some,if_neg (by decide),Option.bind_some]
theorem ask_null {v w:GValue} (cv:CanV v) (cw:CanV w) (h:v.Kind=0∨w.Kind=0):g_value_Less v w=some (trN none,0)∧g_value_Equal v w=some (trN none,0):=by
 unfold g_value_Less g_value_Equal g_value_asked_i0 g_value_asked_i1
 constructor
 all_goals
  rw [both_can cv cw,Option.bind_some,if_neg (show ¬ (0:Int)≠0 by decide),if_pos h]
  rfl
theorem ask_diff {v w:GValue} (cv:CanV v) (cw:CanV w) (h:¬ (v.Kind=0∨w.Kind=0)) (hk:v.Kind≠w.Kind):g_value_Less v w=some (0,2)∧g_value_Equal v w=some (0,2):=by
 unfold g_value_Less g_value_Equal g_value_asked_i0 g_value_asked_i1
 constructor
 all_goals
  rw [both_can cv cw,Option.bind_some,if_neg (show ¬ (0:Int)≠0 by decide),if_neg h,if_pos hk]
  rfl
theorem ask_same {v w:GValue} (cv:CanV v) (cw:CanV w) (h:¬ (v.Kind=0∨w.Kind=0)) (hk:v.Kind=w.Kind) {r:Int} (hr:g_value_order v w=some r):g_value_Less v w=some (trN (some (decide (r < 0))),0)∧g_value_Equal v w=some (trN (some (decide (r=0))),0):=by
 unfold g_value_Less g_value_Equal g_value_asked_i0 g_value_asked_i1 g_value_Less_1 g_value_Equal_1
 constructor
 ·rw [both_can cv cw,Option.bind_some,if_neg (show ¬ (0:Int)≠0 by decide),if_neg h,if_neg (fun q=>q hk),hr,Option.bind_some,Option.bind_some]
  by_cases c:r < 0
  ·rw [if_pos (decide_eq_true c),decide_eq_true c]; rfl
  ·rw [if_neg (by simpa using c),decide_eq_false c]; rfl
 ·rw [both_can cv cw,Option.bind_some,if_neg (show ¬ (0:Int)≠0 by decide),if_neg h,if_neg (fun q=>q hk),hr,Option.bind_some,Option.bind_some]
  by_cases c:r=0
  ·rw [if_pos (decide_eq_true c),decide_eq_true c]; rfl
  ·rw [if_neg (by simpa using c),decide_eq_false c]; rfl
theorem cmp_after {p:Prop} [Decidable p] (x:Option Bool):((if p then (g_value_Not (trN x)).bind fun r'10=>some r'10.1 else some (trN x)).bind fun j'9=>(g_eval_truth j'9).bind fun r'11=>some (r'11,(0:Int)))=some (trV (if p then x.map (!·) else x),0):=by
 by_cases h:p
 ·rw [if_pos h,if_pos h,not_ok (trN_in x),Option.bind_some,Option.bind_some,show w64 (2 - trN x)=trN (x.map (!·)) by rcases x with _ | (_ | _)<;>rfl,truth_tr]
  rfl
 ·rw [if_neg h,if_neg h,Option.bind_some,truth_tr]
  rfl
def cmpX (op:Int) (x1 x2 x3:Option Bool):Option Bool:=if op=9 then x3 else if op=10 then x3.map (!·) else if op=11 then x1 else if op=12 then x2.map (!·) else if op=13 then x2 else x1.map (!·)
theorem compare_e {op:Int} (h:op=9∨op=10∨op=11∨op=12∨op=13∨op=14) {v w:GValue} {x1 x2 x3:Option Bool} (h1:g_value_Less v w=some (trN x1,0)) (h2:g_value_Less w v=some (trN x2,0)) (h3:g_value_Equal v w=some (trN x3,0)):g_eval_compare op v w=some (trV (cmpX op x1 x2 x3),0):=by
 unfold g_eval_compare
 rw [h1,Option.bind_some]
 dsimp only
 rcases h with rfl | rfl | rfl | rfl | rfl | rfl
 ·rw [if_pos rfl,Option.bind_some,if_pos (by decide),h3,Option.bind_some,if_neg (fun q=>q rfl),cmp_after,if_neg (by decide)]; rfl
 ·rw [if_neg (by decide),Option.bind_some,if_pos (by decide),h3,Option.bind_some,if_neg (fun q=>q rfl),cmp_after,if_pos (by decide)]; rfl
 ·rw [if_neg (by decide),Option.bind_some,if_neg (by decide),if_neg (by decide),Option.bind_some,if_neg (by decide),if_neg (by decide),cmp_after,if_neg (by decide)]; rfl
 ·rw [if_neg (by decide),Option.bind_some,if_neg (by decide),if_neg (by decide),Option.bind_some,if_pos (by decide),h2,Option.bind_some,if_neg (fun q=>q rfl),cmp_after,if_pos (by decide)]; rfl
 ·rw [if_neg (by decide),Option.bind_some,if_neg (by decide),if_pos rfl,Option.bind_some,if_pos (by decide),h2,Option.bind_some,if_neg (fun q=>q rfl),cmp_after,if_neg (by decide)]; rfl
 ·rw [if_neg (by decide),Option.bind_some,if_neg (by decide),if_neg (by decide),Option.bind_some,if_neg (by decide),if_neg (by decide),cmp_after,if_pos (by decide)]; rfl
theorem compare_bad {op:Int} (h:op=9∨op=10∨op=11∨op=12∨op=13∨op=14) {v w:GValue} (h1:g_value_Less v w=some (0,2)) (h2:g_value_Less w v=some (0,2)) (h3:g_value_Equal v w=some (0,2)):g_eval_compare op v w=some (GValue.zero,2):=by
 unfold g_eval_compare
 rw [h1,Option.bind_some]
 rcases h with rfl | rfl | rfl | rfl | rfl | rfl
 ·rw [if_pos rfl,Option.bind_some,if_pos (by decide),h3,Option.bind_some]; rfl
 ·rw [if_neg (by decide),Option.bind_some,if_pos (by decide),h3,Option.bind_some]; rfl
 ·rfl
 ·rw [if_neg (by decide),Option.bind_some,if_neg (by decide),if_neg (by decide),Option.bind_some,if_pos (by decide),h2,Option.bind_some]; rfl
 ·rw [if_neg (by decide),Option.bind_some,if_neg (by decide),if_pos rfl,Option.bind_some,if_pos (by decide),h2,Option.bind_some]; rfl
 ·rfl
theorem two_cmp {op:Int} (h:op=9∨op=10∨op=11∨op=12∨op=13∨op=14) (v w:GValue):g_eval_two op v w=g_eval_compare op v w:=by
 unfold g_eval_two
 rcases h with rfl | rfl | rfl | rfl | rfl | rfl <;>
  rw [if_neg (by decide),Option.bind_some,if_neg (by decide),if_neg (by decide),if_neg (by decide),if_neg (by decide),if_neg (by decide),if_neg (by decide),Option.bind_some,if_neg (by decide),bpair]
theorem did_cmp0 {op:Int} (h:op=9∨op=10∨op=11∨op=12∨op=13∨op=14) (v w:GValue):g_ref_did op v w=if v.Kind=0∨w.Kind=0 then some (GValue.zero,0) else if v.Kind≠w.Kind then some (GValue.zero,2) else (g_ref_Order v w).bind fun r'24=>letO (([(2:Int),(5:Int),(1:Int),(3:Int),(4:Int),(6:Int)]:List Int)) fun which18'25=>if 0≤w64 (op - (9:Int))∧w64 (op - (9:Int)) < (which18'25.length:Int) then if 0≤w64 (r'24+(1:Int)) then (if iand (ishr (lrd which18'25 ((w64 (op - (9:Int))).toNat)) ((w64 (r'24+(1:Int))).toNat)) (1:Int)=(1:Int) then (g_ref_boolOf (2:Int)).bind fun r'26=>some (r'26,(0:Int)) else (g_ref_boolOf (0:Int)).bind fun r'27=>some (r'27,(0:Int))) else none else none:=by
 have hA:g_ref_asksFor op=some (0,1):=by rcases h with rfl | rfl | rfl | rfl | rfl | rfl<;>rfl
 unfold g_ref_did
 rw [hA,Option.bind_some,did_ask,Option.bind_some,if_neg (fun q=>by rcases q with q | q<;>exact q.1.1 rfl)]
 dsimp only
 rw [if_neg (by omega),if_neg (by omega),Option.bind_some,if_neg (by simp; omega),if_neg (by omega),if_neg (by omega)]
 by_cases hn:v.Kind=0∨w.Kind=0
 ·rw [if_pos hn,if_pos (hn.imp id fun q=>⟨⟨q,by omega⟩,by omega⟩)]
 ·rw [if_neg hn,if_neg (fun q=>hn (q.imp id fun z=>z.1.1)),if_neg (by omega),if_neg (by omega),if_neg (by omega),if_neg (by omega),if_neg (by omega),if_neg (by omega),Option.bind_some,if_neg (by simp; omega)]
theorem did_cmp {op:Int} (h:op=9∨op=10∨op=11∨op=12∨op=13∨op=14) {v w:GValue} (cv:CanV v) (cw:CanV w):∃ r,g_eval_two op v w=some r∧g_ref_did op v w=some r∧OkR 1 r:=by
 rw [two_cmp h,did_cmp0 h]
 by_cases hn:v.Kind=0∨w.Kind=0
 ·rw [if_pos hn,compare_e h (ask_null cv cw hn).1 (ask_null cw cv hn.symm).1 (ask_null cv cw hn).2]
  refine ⟨_,rfl,?_,.ok (trV_can _) (trV_kind _)⟩
  rw [show cmpX op none none none=none by rcases h with rfl | rfl | rfl | rfl | rfl | rfl<;>rfl]
  rfl
 rw [if_neg hn]
 have hn2:¬ (w.Kind=0∨v.Kind=0):=fun q=>hn q.symm
 by_cases hk:v.Kind≠w.Kind
 ·rw [if_pos hk,compare_bad h (ask_diff cv cw hn hk).1 (ask_diff cw cv hn2 (Ne.symm hk)).1 (ask_diff cv cw hn hk).2]
  exact ⟨_,rfl,rfl,.bad (by decide)⟩
 rw [if_neg hk]
 have hk:=Classical.not_not.1 hk
 obtain ⟨r,o1,o2,o3⟩:=order_can cv cw hk
 obtain ⟨⟨a1,a2⟩,b1,b2⟩:=And.intro (can_ok cv) (can_ok cw)
 obtain ⟨r',p1,p2,_⟩:=order_eq a1 b1 a2 b2
 rw [o1] at p1
 cases p1
 rw [p2,Option.bind_some,letO_eq,compare_e h (ask_same cv cw hn hk o1).1 (ask_same cw cv hn2 hk.symm o2).1 (ask_same cv cw hn hk o1).2]
 refine ⟨_,rfl,?_,.ok (trV_can _) (trV_kind _)⟩
 rcases h with rfl | rfl | rfl | rfl | rfl | rfl<;>rcases o3 with rfl | rfl | rfl<;>rfl
end Go.Proofs.YthnkbagmaljjjaaGreatDoor.VM

/- Words and rules that the proof uses. -/
namespace Go.Proofs.YthnkbagmaljjjaaGreatDoor.VM
open Go Go.RowKit
theorem can_of {v:GValue} (hi:okI v.Int_) (h:g_ref_ValueFault v=some 0):CanV v:=by
 obtain ⟨k,i,b,t⟩:=v
 unfold g_ref_ValueFault at h
 dsimp only at h hi
 have pass:∀ {w:GValue} {x:Option Bool},((if (⟨k,i,b,t⟩:GValue)≠w then some true else x).bind fun g'11=>(if g'11=true then some (3:Int) else some (0:Int)))=some 0→(⟨k,i,b,t⟩:GValue)=w∧(x.bind fun g'11=>(if g'11=true then some (3:Int) else some (0:Int)))=some 0:=by
  intro w x q
  by_cases e:(⟨k,i,b,t⟩:GValue)=w
  ·rw [if_neg (fun z=>z e)] at q
   exact ⟨e,q⟩
  ·rw [if_pos e] at q
   cases q
 have no3:∀ {p:Prop} [Decidable p] {x:Option Bool},((if p then some true else x).bind fun g'11=>(if g'11=true then some (3:Int) else some (0:Int)))=some 0→¬ p:=by
  intro p _ x q z
  rw [if_pos z] at q
  cases q
 by_cases k0:k=0
 ·subst k0
  rw [if_pos rfl] at h
  by_cases hl:(t.length:Int) > 40
  ·exact absurd (show some (1:Int)=some 0 from (if_pos hl (α:=Option Int)).symm.trans h) (by decide)
  ·have h2:=(if_neg hl (α:=Option Int)).symm.trans h
   obtain ⟨e,_⟩:=pass h2
   cases e
   exact .null
 rw [if_neg k0] at h
 by_cases k1:k=1
 ·subst k1
  rw [if_pos rfl,Option.bind_some,if_pos (show decide ((1:Int)=1)=true from rfl)] at h
  by_cases hl:(t.length:Int) > 40
  ·exact absurd (show some (1:Int)=some 0 from (if_pos hl (α:=Option Int)).symm.trans h) (by decide)
  ·have h2:=(if_neg hl (α:=Option Int)).symm.trans h
   obtain ⟨e,h3⟩:=pass h2
   cases e
   rw [if_pos rfl] at h3
   have hu:=no3 h3
   have hn:(UInt64.ofInt i).toNat≤1:=by
    exact Nat.le_of_not_lt fun z=>hu (UInt64.lt_iff_toNat_lt.2 z)
   rw [u64i] at hn
   unfold okI at hi
   have:i=0∨i=1:=by omega
   rcases this with rfl | rfl
   ·exact .bool false
   ·exact .bool true
 rw [if_neg k1,Option.bind_some] at h
 by_cases k2:k=2
 ·subst k2
  rw [if_pos (show decide ((2:Int)=2)=true from rfl)] at h
  by_cases hl:(t.length:Int) > 40
  ·exact absurd (show some (1:Int)=some 0 from (if_pos hl (α:=Option Int)).symm.trans h) (by decide)
  ·have h2:=(if_neg hl (α:=Option Int)).symm.trans h
   obtain ⟨e,_⟩:=pass h2
   cases e
   exact .int _ hi
 rw [if_neg (by simpa using k2)] at h
 by_cases k3:k=3
 ·subst k3
  rw [if_pos rfl] at h
  by_cases hl:(t.length:Int) > 40
  ·exact absurd (show some (1:Int)=some 0 from (if_pos hl (α:=Option Int)).symm.trans h) (by decide)
  ·have h2:=(if_neg hl (α:=Option Int)).symm.trans h
   obtain ⟨e,h3⟩:=pass h2
   cases e
   refine .real _ fun z=>?_
   have hb:g_ref_badReal b=some true:=by
    unfold g_ref_badReal
    rw [decide_eq_true z]
   rw [if_neg (show ¬ (3:Int)=1 by decide),if_pos rfl,hb,Option.bind_some,if_pos rfl] at h3
   cases h3
 rw [if_neg k3] at h
 by_cases k4:k=4
 ·subst k4
  rw [if_pos rfl] at h
  by_cases hl:(t.length:Int) > 40
  ·exact absurd (show some (1:Int)=some 0 from (if_pos hl (α:=Option Int)).symm.trans h) (by decide)
  ·have h2:=(if_neg hl (α:=Option Int)).symm.trans h
   obtain ⟨e,h3⟩:=pass h2
   cases e
   refine .text _ (by omega) ?_
   obtain ⟨vb,hv⟩:=valid_ok (s:=t) (by omega)
   rw [if_neg (show ¬ (4:Int)=1 by decide),if_neg (show ¬ (4:Int)=3 by decide),hv] at h3
   rw [hv]
   cases vb with
   | true=>rfl
   | false=>cases h3
 rw [if_neg k4] at h
 cases h
end Go.Proofs.YthnkbagmaljjjaaGreatDoor.VM

/- Words and rules that the proof uses. -/
namespace Go.Proofs.YthnkbagmaljjjaaGreatDoor.VM
open Go Go.RowKit
theorem u8_all (p:UInt8→Bool) (h:(List.range 256).all (fun n=>p (UInt8.ofNat n))=true) (c:UInt8):p c=true:=by
 have:=List.all_eq_true.1 h c.toNat (List.mem_range.2 c.toNat_lt)
 rwa [UInt8.ofNat_toNat] at this
theorem any_loop {α β:Type} [Inhabited α] {step:Int→Option (Int⊕β)} (l:List α) (p:α→Bool) (a b:β) (hl:l.length < 9223372036854775807)
  (hs:∀ k,k < l.length→step (k:Int)=some (if p (lrd l k)=true then .inr a else .inl (w64 ((k:Int)+1)))) (he:step (l.length:Int)=some (.inr b)):loopO step (0:Int)=some (if l.any p=true then a else b):=by
 have h:=loopO_goL (step:=step) l (fun k (_:Unit)=>(k:Int)) (fun _ x _=>if p x=true then .inr a else .inl ()) (fun _=>b) (fun _ _=>True) (fun k s hk _=>⟨by
  rw [hs k hk,w64_succ (by omega)]
  by_cases hp:p (lrd l k)=true
  ·rw [if_pos hp,if_pos hp]
  ·rw [if_neg hp,if_neg hp],fun _ _=>trivial⟩) (fun _ _=>he) (s:=()) trivial
 have h2:∀ (m:List α) (k:Nat),goL (fun _ x (_:Unit)=>if p x=true then (.inr a:Unit⊕β) else .inl ()) (fun _=>b) m k ()=if m.any p=true then a else b:=by
  intro m
  induction m with
  | nil=>intro k; rfl
  | cons x m ih =>
   intro k
   have e:(x::m).any p=(p x || m.any p):=List.any_cons
   simp only [goL]
   by_cases hp:p x=true
   ·rw [if_pos hp,if_pos (by rw [e,hp]; rfl)]
   ·rw [if_neg hp]
    simp only
    rw [ih]
    have e2:(x::m).any p=m.any p:=by rw [e,Bool.eq_false_iff.2 hp,Bool.false_or]
    by_cases hm:m.any p=true
    ·rw [if_pos hm,if_pos (e2.trans hm)]
    ·rw [if_neg hm,if_neg (fun h=>hm (e2.symm.trans h))]
 rw [h2] at h
 exact h
theorem reach_loop {α:Type} [Inhabited α] {step:Int→Option (Int⊕Int)} (l:List α) (p:α→Bool) (hl:l.length < 9223372036854775807)
  (hs:∀ k,k < l.length→step (k:Int)=some (if p (lrd l k)=true then .inl (w64 ((k:Int)+1)) else .inr (k:Int))) (he:step (l.length:Int)=some (.inr (l.length:Int))):∃ n:Nat,loopO step (0:Int)=some (n:Int)∧(n=l.length↔l.all p=true):=by
 have key:∀ (m:List α) (k:Nat),l.drop k=m→k≤l.length→∃ n:Nat,loopO step (k:Int)=some (n:Int)∧(n=l.length↔m.all p=true):=by
  intro m
  induction m with
  | nil =>
   intro k hm hk
   have:k=l.length:=by
    have:=congrArg List.length hm
    simp at this
    omega
   subst this
   exact ⟨l.length,loopO_done he,by simp⟩
  | cons x m ih =>
   intro k hm hk
   have hlt:k < l.length:=by
    rcases Nat.lt_or_ge k l.length with h | h
    ·exact h
    ·rw [List.drop_eq_nil_of_le h] at hm
     cases hm
   rw [drop_step hlt] at hm
   obtain ⟨hx,hm⟩:=List.cons.inj hm
   have h1:=hs k hlt
   rw [hx] at h1
   by_cases hp:p x=true
   ·rw [if_pos hp,w64_succ (by omega)] at h1
    obtain ⟨n,h2,h3⟩:=ih (k+1) hm hlt
    exact ⟨n,by rw [loopO_next h1]; exact h2,by rw [h3,List.all_cons,hp,Bool.true_and]⟩
   ·rw [if_neg hp] at h1
    refine ⟨k,loopO_done h1,?_⟩
    rw [List.all_cons,Bool.eq_false_iff.2 hp,Bool.false_and]
    constructor
    ·intro h; omega
    ·intro h; cases h
 exact key l 0 rfl (Nat.zero_le _)
theorem all_of_any {α:Type} (p q:α→Bool) (h:∀ x,q x = !(p x)):∀ l:List α,l.any q = !(l.all p)
 | []=>rfl
 | x::l=>by rw [List.any_cons,List.all_cons,all_of_any p q h l,h,Bool.not_and]
def inB (c:UInt8):Bool:=(decide (97≤c) && decide (c≤122)) || (decide (48≤c) && decide (c≤57)) || decide (c=95)
def smallB (c:UInt8):Bool:=decide (97≤c) && decide (c≤122)
theorem small_eq (c:UInt8):g_lex_small c=some (smallB c):=by
 unfold g_lex_small smallB
 rw [Bool.decide_and]
theorem inName_eq (c:UInt8):g_lex_inName c=some (inB c):=by
 unfold g_lex_inName g_lex_digit inB
 rw [small_eq,Option.bind_some]
 unfold smallB
 rw [Bool.decide_and]
 by_cases h1:(decide (97≤c) && decide (c≤122))=true
 ·rw [if_pos h1,h1]; rfl
 ·rw [if_neg h1,Bool.eq_false_iff.2 h1,Option.bind_some]
  by_cases h2:(decide (48≤c) && decide (c≤57))=true
  ·rw [if_pos h2,h2]; rfl
  ·rw [if_neg h2,Bool.eq_false_iff.2 h2]; rfl
theorem t1_in (c:UInt8):(g_ref_isName_t1.any fun x=>decide (x=c))=inB c:=by
 have:=u8_all (fun c=>(g_ref_isName_t1.any fun x=>decide (x=c)) == inB c) (by decide +kernel) c
 exact eq_of_beq this
theorem t0_small (c:UInt8):(g_ref_isName_t0.any fun x=>decide (x=c))=smallB c:=by
 have:=u8_all (fun c=>(g_ref_isName_t0.any fun x=>decide (x=c)) == smallB c) (by decide +kernel) c
 exact eq_of_beq this
theorem among_eq (c:UInt8) (l:List UInt8) (hl:l.length < 9223372036854775807):g_ref_among c l=some (l.any fun x=>decide (x=c)):=by
 unfold g_ref_among
 have h:=any_loop (step:=g_ref_among_l0 c l) l (fun x=>decide (x=c)) (.inl true) (.inr ()) hl (fun k hk=>by
  unfold g_ref_among_l0
  dsimp only
  rw [if_pos (natLt hk),if_pos (natIn hk),Int.toNat_natCast]
  by_cases h1:lrd l k=c
  ·rw [if_pos h1,if_pos (decide_eq_true h1)]
  ·rw [if_neg h1,if_neg (by rw [decide_eq_false h1]; decide)]) (by
  unfold g_ref_among_l0
  dsimp only
  rw [if_neg natNlt])
 rw [h,Option.bind_some]
 by_cases h1:(l.any fun x=>decide (x=c))=true
 ·rw [if_pos h1,h1]
 ·rw [if_neg h1,Bool.eq_false_iff.2 h1]
theorem reach_eq (s l:List UInt8) (hs:s.length < 9223372036854775807) (hl:l.length < 9223372036854775807):∃ n:Nat,g_ref_reach s l=some (n:Int)∧(n=s.length↔(s.all fun c=>l.any fun x=>decide (x=c))=true):=by
 obtain ⟨n,h1,h2⟩:=reach_loop (step:=g_ref_reach_l0 s l) s (fun c=>l.any fun x=>decide (x=c)) hs (fun k hk=>by
  unfold g_ref_reach_l0
  dsimp only
  rw [if_pos (natLt hk),if_pos (natIn hk),Int.toNat_natCast,among_eq _ _ hl,Option.bind_some,Option.bind_some]
  by_cases h1:(l.any fun x=>decide (x=lrd s k))=true
  ·rw [if_pos h1,if_pos h1]
  ·rw [if_neg h1,if_neg h1]) (by
  unfold g_ref_reach_l0
  dsimp only
  rw [if_neg natNlt,Option.bind_some,if_neg (by decide)])
 unfold g_ref_reach
 rw [h1]
 exact ⟨n,rfl,h2⟩
theorem all_in (s:List UInt8) (hs:s.length < 9223372036854775807):g_lex_all_i0 s=some (s.all inB && decide (s≠[])):=by
 unfold g_lex_all_i0
 have h:=any_loop (step:=g_lex_all_i0_l0 s) s (fun x => !(inB x)) (.inl false) (.inr ()) hs (fun k hk=>by
  unfold g_lex_all_i0_l0
  dsimp only
  rw [if_pos (natLt hk),if_pos (natIn hk),Int.toNat_natCast,inName_eq,Option.bind_some]
  by_cases h1:(!(inB (lrd s k)))=true
  ·rw [if_pos h1,if_pos h1]
  ·rw [if_neg h1,if_neg h1]) (by
  unfold g_lex_all_i0_l0
  dsimp only
  rw [if_neg natNlt])
 rw [h,Option.bind_some,all_of_any inB _ (fun _=>rfl)]
 by_cases h1:s.all inB=true
 ·rw [h1,if_neg (by decide)]; rfl
 ·rw [Bool.eq_false_iff.2 h1,if_pos (by decide)]; rfl
def isNm (s:List UInt8):Bool:=decide (s≠[]) && (smallB (lrd s 0) && s.all inB)
theorem isName_eq (s:List UInt8) (hs:s.length < 9223372036854775807):g_ref_isName s=some (isNm s):=by
 unfold g_ref_isName isNm
 by_cases h0:s=[]
 ·subst h0; rfl
 ·have hp:0 < s.length:=List.length_pos_iff.2 h0
  rw [if_pos h0,if_pos hp,among_eq _ _ (by decide),t0_small,Option.bind_some,decide_eq_true h0,Bool.true_and]
  obtain ⟨n,h1,h2⟩:=reach_eq s g_ref_isName_t1 hs (by decide)
  rw [h1,Option.bind_some]
  simp only [t1_in] at h2
  by_cases h3:smallB (lrd s 0)=true
  ·rw [if_pos h3,h3,Option.bind_some,Bool.true_and]
   congr 1
   by_cases h4:s.all inB=true
   ·have h5:=h2.2 h4
    rw [h4,decide_eq_true (by omega)]
   ·have h5:n≠s.length:=fun h=>h4 (h2.1 h)
    rw [Bool.eq_false_iff.2 h4,decide_eq_false (by omega)]
  ·rw [if_neg h3,Bool.eq_false_iff.2 h3]
   rfl
theorem nameP_eq (s:List UInt8) (hs:s.length < 9223372036854775807):(((g_lex_all_i0 s).bind fun r'5=>(if r'5=true then if 0 < s.length then (g_lex_small (lrd s 0)).bind fun r'6=>some r'6 else none else some false)).bind fun g'7=>some g'7)=some (isNm s):=by
 rw [all_in s hs,Option.bind_some]
 unfold isNm
 by_cases h0:s=[]
 ·subst h0; rfl
 ·have hp:0 < s.length:=List.length_pos_iff.2 h0
  rw [decide_eq_true h0,Bool.and_true,Bool.true_and,if_pos hp,small_eq]
  by_cases h4:s.all inB=true
  ·rw [if_pos h4,h4,Bool.and_true]; rfl
  ·rw [if_neg h4,Bool.eq_false_iff.2 h4,Bool.and_false]; rfl
end Go.Proofs.YthnkbagmaljjjaaGreatDoor.VM

/- Words and rules that the proof uses. -/
namespace Go.Proofs.YthnkbagmaljjjaaGreatDoor.VM
open Go Go.RowKit
def wrong (long ok:Prop) [Decidable long] [Decidable ok]:Int:=if long then 1 else if ok then 0 else 3
theorem wrong_l {long:Prop} [Decidable long] {b b1 b2:Bool} {w:Prop} [Decidable w] (h1:b1=true↔long) (h2:b2=true↔¬ w):(if b1=true then some (1:Int) else (if b2=true then some (3:Int) else ((some b:Option Bool).bind fun j'3=>(if (!j'3)=true then some (3:Int) else some (0:Int)))))=some (wrong long (b=true∧w)):=by
 unfold wrong
 by_cases hl:long
 ·rw [if_pos (h1.2 hl),if_pos hl]
 ·rw [if_neg (fun h=>hl (h1.1 h)),if_neg hl]
  by_cases hw:w
  ·rw [if_neg (fun h=>h2.1 h hw),Option.bind_some]
   cases b with
   | true=>rw [if_neg (show ¬ ((!true)=true) by decide),if_pos ⟨rfl,hw⟩]
   | false=>rw [if_pos (show (!false)=true from rfl),if_neg (by simp)]
  ·rw [if_pos (h2.2 hw),if_neg (fun h=>hw h.2)]
theorem name_lex (t:GToken) (hK:t.Kind=1) (hT:t.Text.length < 9223372036854775807):g_lex_Check t=some (wrong ((t.Text.length:Int) > 8) (isNm t.Text=true∧(t.Int_=0∧t.Bits=0))):=by
 obtain ⟨K,T,I,B⟩:=t
 dsimp only at hK hT ⊢
 subst hK
 unfold g_lex_Check
 dsimp only
 rw [if_neg (show ¬ ((1:Int) < 1∨(1:Int) > 6) by decide),letO_eq,letO_eq,if_pos (show (1:Int)=1 from rfl),nameP_eq T hT]
 exact wrong_l (by simp) (by simp [-not_and,Classical.not_and_iff_not_or_not])
theorem name_eq (s:List UInt8) (hs:s.length < 9223372036854775807):g_lex_Check ({ { GToken.zero with Kind:=(1:Int) } with Text:=s })=some (wrong ((s.length:Int) > 8) (isNm s=true)):=by
 have h:=name_lex ({ { GToken.zero with Kind:=(1:Int) } with Text:=s }) rfl hs
 rw [h]
 congr 1
 unfold wrong
 by_cases h:isNm s=true
 ·simp [GToken.zero,h]
 ·simp [GToken.zero,h]
end Go.Proofs.YthnkbagmaljjjaaGreatDoor.VM

/- Words and rules that the proof uses. -/
namespace Go.Proofs.YthnkbagmaljjjaaGreatDoor.VM
open Go Go.RowKit
def lev:Nat→List GExpr→List GExpr
 | 0,l=>l
 | k+1,l=>lev k (l.flatMap GExpr.Args)
def cnt:Nat→List GExpr→Nat
 | 0,_=>0
 | k+1,l=>l.length+cnt k (l.flatMap GExpr.Args)
theorem lev_app:∀ (k:Nat) (a b:List GExpr),lev k (a++b)=lev k a++lev k b
 | 0,_,_=>rfl
 | k+1,a,b=>by rw [lev,lev,lev,List.flatMap_append,lev_app k]
theorem cnt_app:∀ (k:Nat) (a b:List GExpr),cnt k (a++b)=cnt k a+cnt k b
 | 0,_,_=>rfl
 | k+1,a,b=>by rw [cnt,cnt,cnt,List.flatMap_append,cnt_app k,List.length_append]; omega
theorem lev_succ:∀ (k:Nat) (l:List GExpr),lev (k+1) l=(lev k l).flatMap GExpr.Args
 | 0,_=>rfl
 | k+1,l=>by rw [lev,lev_succ k,lev]
theorem cnt_succ:∀ (k:Nat) (l:List GExpr),cnt (k+1) l=cnt k l+(lev k l).length
 | 0,l=>by simp [cnt,lev]
 | k+1,l=>by rw [cnt,cnt_succ k,cnt,lev]; omega
theorem lev_nil:∀ k,lev k []=[]
 | 0=>rfl
 | k+1=>by rw [lev,List.flatMap_nil,lev_nil k]
theorem cnt_nil:∀ k,cnt k []=0
 | 0=>rfl
 | k+1=>by rw [cnt,List.flatMap_nil,cnt_nil k]; rfl
theorem lev_end {j:Nat} {l:List GExpr} (h:lev j l=[]):∀ i,lev (j+i) l=[]∧cnt (j+i) l=cnt j l
 | 0=>⟨h,rfl⟩
 | i+1=>by
  obtain ⟨h1,h2⟩:=lev_end h i
  rw [show j+(i+1)=(j+i)+1 by omega,lev_succ,cnt_succ,h1,h2]
  exact ⟨rfl,rfl⟩
theorem cnt_mono {l:List GExpr} (j:Nat):∀ i,cnt j l≤cnt (j+i) l
 | 0=>Nat.le_refl _
 | i+1=>by
  rw [show j+(i+1)=(j+i)+1 by omega,cnt_succ]
  have:=cnt_mono (l:=l) j i
  omega
def fine (m:Nat) (e:GExpr):Prop:=(lev m [e]).length=0∧cnt m [e]≤40
instance (m : Nat) (e : GExpr) : Decidable (fine m e) := inferInstanceAs (Decidable (_ ∧ _))
theorem take_lev {l:List GExpr} {m k:Nat} (hk:k < l.length):lev m (l.take (k+1))=lev m (l.take k)++lev m [lrd l k]:=by rw [take_step hk,lev_app]
theorem take_cnt {l:List GExpr} {m k:Nat} (hk:k < l.length):cnt m (l.take (k+1))=cnt m (l.take k)+cnt m [lrd l k]:=by rw [take_step hk,cnt_app]
theorem lev_part {l:List GExpr} {m k:Nat} (hk:k < l.length) (h:lev m l=[]):lev m [lrd l k]=[]:=by
 have:l=l.take k++([lrd l k]++l.drop (k+1)):=by
  rw [List.singleton_append,← drop_step hk,List.take_append_drop]
 rw [this,lev_app,lev_app] at h
 exact (List.append_eq_nil_iff.1 (List.append_eq_nil_iff.1 h).2).1
theorem cnt_part {l:List GExpr} {m k:Nat} (hk:k < l.length):cnt m (l.take k)+cnt m [lrd l k]≤cnt m l:=by
 have:l=l.take k++([lrd l k]++l.drop (k+1)):=by
  rw [List.singleton_append,← drop_step hk,List.take_append_drop]
 conv=>rhs; rw [this,cnt_app,cnt_app]
 omega
theorem one_args (e:GExpr):[e].flatMap GExpr.Args=e.Args:=by simp
theorem fine_succ {m:Nat} {e:GExpr}:fine (m+1) e↔lev m e.Args=[]∧1+cnt m e.Args≤40:=by
 unfold fine
 rw [lev,cnt,one_args,List.length_singleton,List.length_eq_zero_iff]
theorem exOk {e:GExpr} (q:GExpr.ok e):okI e.Op∧okI e.Value.Int_∧e.Name.length < 9223372036854775807∧e.Args.length≤140737488351232∧∀ a∈e.Args,GExpr.ok a:=by
 cases q with
 | mk h0 h1 h2 h3 h4 h5 =>
  have h6:e.Args.length≤reachBytes:=Nat.le_trans (Nat.le_mul_of_pos_right _ (by decide)) h3
  exact ⟨h0,h1.2.1,Nat.lt_of_le_of_lt h2 (by decide),h6,h5⟩
theorem size_eq:∀ (m f:Nat) (e:GExpr) (d:Int),d=8 - (m:Int)→m≤7→m < f→GExpr.ok e→g_expr_size f e d=some (if fine m e then ((cnt m [e]:Int),true) else (0,false))
 | m,0,_,_,_,_,h,_=>by omega
 | 0,f+1,e,d,hd,_,_,_=>by
  unfold g_expr_size g_expr_size_b
  rw [if_pos (by omega),if_neg (fun h=>by have:=h.1; rw [lev] at this; cases this)]
 | m+1,f+1,e,d,hd,hm,hf,q=>by
  obtain ⟨_,_,_,hl,hargs⟩:=exOk q
  unfold g_expr_size g_expr_size_b
  rw [if_neg (by omega)]
  obtain ⟨r,h1,h2⟩:=loopO_times (step:=g_expr_size_l0 e d (g_expr_size f)) e.Args.length (fun k (n:Int)=>(n,(k:Int))) (fun k n=>n=1+(cnt m (e.Args.take k):Int)∧1+cnt m (e.Args.take k)≤40∧lev m (e.Args.take k)=[])
   (fun r=>r=if fine (m+1) e then .inr (1+(cnt m e.Args:Int)) else .inl (0,false)) (fun k n hk hi=>by
   obtain ⟨rfl,hc,hv⟩:=hi
   have hpart:=cnt_part (m:=m) hk
   have ih:=size_eq m f (lrd e.Args k) (d+1) (by omega) (by omega) (by omega) (hargs _ (lrd_mem hk))
   unfold g_expr_size_l0
   dsimp only
   rw [if_pos (natLt hk),if_pos (natIn hk),Int.toNat_natCast,w64_id (n:=d+1) (by omega),ih,Option.bind_some]
   by_cases hfine:fine m (lrd e.Args k)
   ·rw [if_pos hfine]
    have hca:=hfine.2
    dsimp only
    rw [w64_id (n:=1+(cnt m (e.Args.take k):Int)+(cnt m [lrd e.Args k]:Int)) (by omega)]
    by_cases hs:1+(cnt m (e.Args.take k):Int)+(cnt m [lrd e.Args k]:Int) > 40
    ·right
     refine ⟨.inl (0,false),by rw [if_pos (.inr hs)],?_⟩
     rw [if_neg (fun h=>by have:=(fine_succ.1 h).2; omega)]
    ·left
     refine ⟨1+(cnt m (e.Args.take k):Int)+(cnt m [lrd e.Args k]:Int),?_,?_,?_,?_⟩
     ·rw [if_neg (by intro h; rcases h with h | h; exact absurd h (by decide); exact hs h),w64_succ (by omega)]
     ·rw [take_cnt hk]; omega
     ·rw [take_cnt hk]; omega
     ·rw [take_lev hk,hv,List.length_eq_zero_iff.1 hfine.1]; rfl
   ·rw [if_neg hfine]
    right
    refine ⟨.inl (0,false),by rw [if_pos (.inl rfl)],?_⟩
    rw [if_neg (fun h=>hfine ?_)]
    obtain ⟨h3,h4⟩:=fine_succ.1 h
    exact ⟨by rw [lev_part hk h3]; rfl,by omega⟩) (fun n hi=>by
   obtain ⟨rfl,hc,hv⟩:=hi
   rw [List.take_length] at hc hv
   refine ⟨.inr (1+(cnt m e.Args:Int)),?_,?_⟩
   ·unfold g_expr_size_l0
    dsimp only
    rw [if_neg natNlt,List.take_length]
   ·rw [if_pos (fine_succ.2 ⟨hv,hc⟩)]) (s:=1) ⟨by rw [List.take_zero,cnt_nil]; rfl,by rw [List.take_zero,cnt_nil]; decide,by rw [List.take_zero,lev_nil]⟩
  have h1':loopO (g_expr_size_l0 e d (g_expr_size f)) ((1:Int),(0:Int))=some r:=h1
  rw [h1',h2,Option.bind_some]
  by_cases hfine:fine (m+1) e
  ·rw [if_pos hfine,if_pos hfine]
   dsimp only
   rw [cnt,one_args,List.length_singleton]
   congr 2
  ·rw [if_neg hfine,if_neg hfine]
theorem row_next (row:List GExpr) (hl:row.length≤1000):∃ o,loopO (g_ref_within_l1 row) ((0:Int),([]:List GExpr))=some o∧match o with
  | .inl b=>b=false∧40 < (row.flatMap GExpr.Args).length
  | .inr nx=>nx=row.flatMap GExpr.Args∧nx.length≤40:=by
 refine loopO_times (step:=g_ref_within_l1 row) row.length (fun k (nx:List GExpr)=>((k:Int),nx)) (fun k nx=>nx=(row.take k).flatMap GExpr.Args∧nx.length≤40) _ (fun k nx hk hi=>?_) (fun nx hi=>?_) (s:=[]) ⟨by simp,Nat.zero_le _⟩
 ·obtain ⟨rfl,hc⟩:=hi
  have hst:(row.take (k+1)).flatMap GExpr.Args=(row.take k).flatMap GExpr.Args++(lrd row k).Args:=by
   rw [take_step hk,List.flatMap_append,one_args]
  have htot:((row.take k).flatMap GExpr.Args).length+(lrd row k).Args.length≤(row.flatMap GExpr.Args).length:=by
   have h3:(row.take (k+1)++row.drop (k+1)).flatMap GExpr.Args=row.flatMap GExpr.Args:=by rw [List.take_append_drop]
   rw [List.flatMap_append,hst] at h3
   rw [← h3,List.length_append,List.length_append]
   omega
  unfold g_ref_within_l1
  dsimp only
  rw [if_pos (natLt hk),if_pos (natIn hk),Int.toNat_natCast]
  by_cases ha:((lrd row k).Args.length:Int) > 40
  ·right
   exact ⟨.inl false,by rw [if_pos ha],rfl,by omega⟩
  ·rw [if_neg ha,if_pos (show room _ _ by simp only [room]; omega)]
   by_cases hs:((((row.take k).flatMap GExpr.Args++(lrd row k).Args).length:Nat):Int) > 40
   ·right
    refine ⟨.inl false,by rw [if_pos hs],rfl,?_⟩
    rw [List.length_append] at hs
    omega
   ·left
    refine ⟨(row.take (k+1)).flatMap GExpr.Args,by rw [if_neg hs,w64_succ (by omega),hst],rfl,?_⟩
    rw [hst]
    omega
 ·obtain ⟨rfl,hc⟩:=hi
  rw [List.take_length] at hc
  refine ⟨.inr (row.flatMap GExpr.Args),?_,rfl,hc⟩
  unfold g_ref_within_l1
  dsimp only
  rw [if_neg natNlt,List.take_length]
theorem within_eq (e:GExpr):g_ref_within e=some (decide (fine 7 e)):=by
 obtain ⟨r,h1,h2⟩:=loopO_times (step:=g_ref_within_l0) 7 (fun j (_:Unit)=>((cnt j [e]:Int),((j+1:Nat):Int),lev j [e])) (fun j _=>cnt j [e]≤40∧(lev j [e]).length≤40) (fun r=>r=if fine 7 e then .inr () else .inl false) (fun j _ hj hc=>by
  obtain ⟨hc,hlen⟩:=hc
  have hsucc:=cnt_succ j [e]
  unfold g_ref_within_l0
  dsimp only
  by_cases h0:(lev j [e]).length=0
  ·right
   refine ⟨.inr (),by rw [if_neg (by omega)],?_⟩
   have h3:=lev_end (List.length_eq_zero_iff.1 h0) (7 - j)
   rw [show j+(7 - j)=7 by omega] at h3
   rw [if_pos ⟨by rw [h3.1]; rfl,by rw [h3.2]; exact hc⟩]
  ·rw [if_pos (by omega),w64_id (n:=(cnt j [e]:Int)+((lev j [e]).length:Int)) (by omega)]
   have hm:=cnt_mono (l:=[e]) (j+1) (6 - j)
   rw [show j+1+(6 - j)=7 by omega] at hm
   by_cases hb:(cnt j [e]:Int)+((lev j [e]).length:Int) > 40
   ·right
    refine ⟨.inl false,by rw [if_pos (.inr hb)],?_⟩
    rw [if_neg (fun h=>?_)]
    have h4:=h.2
    omega
   ·rw [if_neg (by omega)]
    obtain ⟨o,h5,h6⟩:=row_next (lev j [e]) (by omega)
    rw [h5,Option.bind_some]
    have hls:(lev j [e]).flatMap GExpr.Args=lev (j+1) [e]:=(lev_succ j [e]).symm
    cases o with
    | inl b =>
     obtain ⟨rfl,h7⟩:=h6
     right
     refine ⟨.inl false,rfl,?_⟩
     rw [if_neg (fun h=>?_)]
     rw [hls] at h7
     rcases Nat.lt_or_ge j 6 with h8 | h8
     ·have hs2:cnt (j+2) [e]=cnt (j+1) [e]+(lev (j+1) [e]).length:=cnt_succ (j+1) [e]
      have hm2:=cnt_mono (l:=[e]) (j+2) (5 - j)
      rw [show j+2+(5 - j)=7 by omega] at hm2
      have h4:=h.2
      omega
     ·have:j+1=7:=by omega
      rw [this] at h7
      have h4:=h.1
      omega
    | inr nx =>
     obtain ⟨rfl,h7⟩:=h6
     rw [hls] at h7
     left
     refine ⟨(),?_,by omega,h7⟩
     dsimp only
     rw [hls,hsucc,w64_id (by omega)]
     congr 3) (fun _ hc=>by
  obtain ⟨hc,hlen⟩:=hc
  unfold g_ref_within_l0
  dsimp only
  by_cases h0:(lev 7 [e]).length=0
  ·exact ⟨.inr (),by rw [if_neg (by omega)],by rw [if_pos ⟨h0,hc⟩]⟩
  ·exact ⟨.inl false,by rw [if_pos (by omega),if_pos (.inl (by decide))],by rw [if_neg (fun h=>h0 h.1)]⟩) (s:=()) ⟨Nat.zero_le _,show 1≤40 by decide⟩
 have h1':loopO g_ref_within_l0 ((0:Int),(1:Int),([e]:List GExpr))=some r:=h1
 unfold g_ref_within
 rw [h1',h2,Option.bind_some]
 by_cases h:fine 7 e
 ·rw [if_pos h,decide_eq_true h]
 ·rw [if_neg h,decide_eq_false h]
theorem wants_eq {op:Int} (h:1≤op∧op≤20):g_expr_wants op=some (lrd ([(0:Int),(0:Int),(0:Int),(1:Int),(1:Int),(2:Int),(2:Int),(2:Int),(2:Int),(2:Int),(2:Int),(2:Int),(2:Int),(2:Int),(2:Int),(2:Int),(2:Int),(1:Int),(1:Int),(2:Int),(2:Int)]:List Int) op.toNat):=by
 have:op=1∨op=2∨op=3∨op=4∨op=5∨op=6∨op=7∨op=8∨op=9∨op=10∨op=11∨op=12∨op=13∨op=14∨op=15∨op=16∨op=17∨op=18∨op=19∨op=20:=by omega
 rcases this with rfl | rfl | rfl | rfl | rfl | rfl | rfl | rfl | rfl | rfl | rfl | rfl | rfl | rfl | rfl | rfl | rfl | rfl | rfl | rfl<;>rfl
theorem node_eq {e:GExpr} (q:GExpr.ok e):∃ own:Int,g_expr_node e=some own∧∀ R':GExpr→Option Int,g_ref_nodeFault_b R' e=if own≠0 then some own else (loopO (g_ref_nodeFault_l0 e R') (0:Int)).bind fun o'13=>match o'13 with | .inl y'14=>some y'14 | .inr (y'15)=>some (0:Int):=by
 obtain ⟨_,hvi,hnm,_,_⟩:=exOk q
 unfold g_expr_node g_ref_nodeFault_b
 simp only [letO_eq]
 by_cases hop:(e.Op < (1:Int))∨(e.Op > (20:Int))
 ·rw [if_pos hop]
  refine ⟨2,rfl,fun R'=>?_⟩
  rw [if_pos (by simp only [List.length_cons,List.length_nil]; omega),if_pos (show (2:Int)≠0 by decide)]
 ·have hop2:1≤e.Op∧e.Op≤20:=by omega
  rw [if_neg hop,wants_eq hop2,Option.bind_some]
  generalize hW:(lrd ([(0:Int),(0:Int),(0:Int),(1:Int),(1:Int),(2:Int),(2:Int),(2:Int),(2:Int),(2:Int),(2:Int),(2:Int),(2:Int),(2:Int),(2:Int),(2:Int),(2:Int),(1:Int),(1:Int),(2:Int),(2:Int)]:List Int) e.Op.toNat)=W
  have hno:¬ ((e.Op < (1:Int))∨(e.Op≥((([(0:Int),(0:Int),(0:Int),(1:Int),(1:Int),(2:Int),(2:Int),(2:Int),(2:Int),(2:Int),(2:Int),(2:Int),(2:Int),(2:Int),(2:Int),(2:Int),(2:Int),(1:Int),(1:Int),(2:Int),(2:Int)]:List Int).length:Nat):Int))):=by
   simp only [List.length_cons,List.length_nil]; omega
  have hin:0≤e.Op∧e.Op < ((([(0:Int),(0:Int),(0:Int),(1:Int),(1:Int),(2:Int),(2:Int),(2:Int),(2:Int),(2:Int),(2:Int),(2:Int),(2:Int),(2:Int),(2:Int),(2:Int),(2:Int),(1:Int),(1:Int),(2:Int),(2:Int)]:List Int).length:Nat):Int):=by
   simp only [List.length_cons,List.length_nil]; omega
  simp only [if_neg hno,if_pos hin]
  obtain ⟨ve,hv1,hv2,_⟩:=check_eq e.Value hvi
  have hbad:∀ (b:Bool) (R':GExpr→Option Int),b=false→((some b:Option Bool).bind fun j'2=>(if (!j'2)=true then some (3:Int) else (loopO (g_ref_nodeFault_l0 e R') (0:Int)).bind fun o'13=>match o'13 with | .inl y'14=>some y'14 | .inr (y'15)=>some (0:Int)))=if (3:Int)≠0 then some 3 else (loopO (g_ref_nodeFault_l0 e R') (0:Int)).bind fun o'13=>match o'13 with | .inl y'14=>some y'14 | .inr (y'15)=>some (0:Int):=by
   intro b R' hb
   subst hb
   rfl
  have hgood:∀ (b:Bool) (R':GExpr→Option Int),b=true→((some b:Option Bool).bind fun j'2=>(if (!j'2)=true then some (3:Int) else (loopO (g_ref_nodeFault_l0 e R') (0:Int)).bind fun o'13=>match o'13 with | .inl y'14=>some y'14 | .inr (y'15)=>some (0:Int)))=if (0:Int)≠0 then some 0 else (loopO (g_ref_nodeFault_l0 e R') (0:Int)).bind fun o'13=>match o'13 with | .inl y'14=>some y'14 | .inr (y'15)=>some (0:Int):=by
   intro b R' hb
   subst hb
   rfl
  by_cases h1:e.Op=1
  ·-- a literal
   rw [h1]
   simp only [if_true]
   by_cases hlen:(e.Args.length:Int)=W
   ·rw [if_neg (fun q=>q hlen)]
    simp only [if_pos hlen]
    by_cases hn:e.Name=[]
    ·simp only [if_pos hn,hv1,hv2,Option.bind_some]
     rw [if_neg (by simp [hn])]
     by_cases hve:ve=0
     ·subst hve
      simp only [if_true]
      by_cases hi:e.Value.Int_ < 0
      ·refine ⟨3,by simp [hi],fun R'=>hbad _ R' (decide_eq_false (by omega))⟩
      ·refine ⟨0,by simp [hi],fun R'=>hgood _ R' (decide_eq_true (by omega))⟩
     ·simp only [if_neg hve]
      refine ⟨3,by simp [hve],fun R'=>hbad _ R' rfl⟩
    ·simp only [if_neg hn]
     refine ⟨3,?_,fun R'=>hbad _ R' rfl⟩
     rw [if_pos (.inl (by simp [hn]))]
   ·rw [if_pos hlen]
    simp only [if_neg hlen]
    exact ⟨3,rfl,fun R'=>hbad _ R' rfl⟩
  ·simp only [if_neg h1]
   by_cases h2:e.Op=2
   ·rw [h2]
    simp only [if_true]
    by_cases hlen:(e.Args.length:Int)=W
    ·rw [if_neg (fun q=>q hlen)]
     simp only [if_pos hlen]
     by_cases hz:e.Value=GValue.zero
     ·simp only [if_pos hz,isName_eq _ hnm,name_eq _ hnm,Option.bind_some]
      by_cases hn:isNm e.Name=true
      ·have hne:e.Name≠[]:=by
        intro h0
        rw [h0] at hn
        exact absurd hn (by decide)
       simp only [if_pos hn]
       rw [if_neg (by intro h; rcases h with h | h; exact h (by simp [hne]); exact h.2 hz)]
       unfold wrong
       by_cases h8:(e.Name.length:Int) > 8
       ·refine ⟨3,by simp [h8],fun R'=>hbad _ R' (decide_eq_false (by omega))⟩
       ·refine ⟨0,by simp [h8,hn],fun R'=>hgood _ R' (decide_eq_true (by omega))⟩
      ·simp only [if_neg hn]
       refine ⟨3,?_,fun R'=>hbad _ R' rfl⟩
       by_cases h0:(decide True)≠(decide (e.Name≠[]))∨((2:Int)≠1∧e.Value≠GValue.zero)
       ·rw [if_pos h0]
       ·rw [if_neg h0]
        unfold wrong
        by_cases h8:(e.Name.length:Int) > 8
        ·simp [h8]
        ·simp [h8,hn]
     ·simp only [if_neg hz]
      refine ⟨3,?_,fun R'=>hbad _ R' rfl⟩
      rw [if_pos (.inr ⟨by decide,hz⟩)]
    ·rw [if_pos hlen]
     simp only [if_neg hlen]
     exact ⟨3,rfl,fun R'=>hbad _ R' rfl⟩
   ·simp only [if_neg h2]
    by_cases hlen:(e.Args.length:Int)=W
    ·rw [if_neg (fun q=>q hlen)]
     by_cases hn:e.Name=[]
     ·by_cases hz:e.Value=GValue.zero
      ·refine ⟨0,?_,fun R'=>hgood _ R' (decide_eq_true ⟨⟨hlen,hn⟩,hz⟩)⟩
       rw [if_neg (by simp [h2,hn,hz])]
       rfl
      ·refine ⟨3,?_,fun R'=>hbad _ R' (decide_eq_false (fun h=>hz h.2))⟩
       rw [if_pos (.inr ⟨h1,hz⟩)]
     ·refine ⟨3,?_,fun R'=>hbad _ R' (decide_eq_false (fun h=>hn h.1.2))⟩
      rw [if_pos (.inl (by simp [h2,hn]))]
    ·rw [if_pos hlen]
     exact ⟨3,rfl,fun R'=>hbad _ R' (decide_eq_false (fun h=>hlen h.1.1))⟩
theorem nodes_eq:∀ (m f:Nat) (e:GExpr),m < f→GExpr.ok e→lev m [e]=[]→∃ r,g_expr_nodes f e=some r∧g_ref_nodeFault f e=some r
 | _,0,_,h,_,_=>by omega
 | 0,_,_,_,_,h=>by cases h
 | m+1,f+1,e,hf,q,hv=>by
  obtain ⟨_,_,_,hl,hargs⟩:=exOk q
  obtain ⟨own,h1,h2⟩:=node_eq q
  unfold g_expr_nodes g_expr_nodes_b g_ref_nodeFault
  rw [h1,h2,Option.bind_some]
  by_cases ho:own≠0
  ·rw [if_pos ho,if_pos ho]; exact ⟨_,rfl,rfl⟩
  ·rw [if_neg ho,if_neg ho]
   rw [lev,one_args] at hv
   obtain ⟨r,h3,h4⟩:=loopO_two (step:=g_expr_nodes_l0 e (g_expr_nodes f)) (step2:=g_ref_nodeFault_l0 e (g_ref_nodeFault f)) (fun a c=>a=c∧∃ k:Nat,a=(k:Int)∧k≤e.Args.length) (fun a=>e.Args.length - a.toNat) (fun a c hR=>by
    obtain ⟨rfl,k,rfl,hk⟩:=hR
    unfold g_expr_nodes_l0 g_ref_nodeFault_l0
    dsimp only
    by_cases hk2:k < e.Args.length
    ·rw [if_pos (natLt hk2),if_pos (natIn hk2),if_pos (natLt hk2),if_pos (natIn hk2),Int.toNat_natCast]
     obtain ⟨r,h5,h6⟩:=nodes_eq m f (lrd e.Args k) (by omega) (hargs _ (lrd_mem hk2)) (lev_part hk2 hv)
     rw [h5,h6]
     simp only [Option.bind_some]
     by_cases hr:r≠0
     ·simp only [if_pos hr]; exact .inr ⟨_,rfl,rfl⟩
     ·simp only [if_neg hr]
      refine .inl ⟨_,_,rfl,rfl,⟨rfl,k+1,w64_succ (by omega),hk2⟩,?_⟩
      rw [w64_succ (by omega)]
      simp only [Int.toNat_natCast]
      omega
    ·have:k=e.Args.length:=by omega
     subst this
     rw [if_neg natNlt,if_neg natNlt]
     exact .inr ⟨_,rfl,rfl⟩) (a:=(0:Int)) (c:=(0:Int)) ⟨rfl,0,rfl,Nat.zero_le _⟩
   rw [h3,h4,Option.bind_some,Option.bind_some]
   cases r with
   | inl y=>exact ⟨y,rfl,rfl⟩
   | inr u=>exact ⟨0,rfl,rfl⟩
theorem expr_eq {e:GExpr} (q:GExpr.ok e):∃ r,g_expr_Check e=some r∧g_ref_ExprFault e=some r:=by
 unfold g_expr_Check g_ref_ExprFault
 rw [size_eq 7 100000 e 1 (by decide) (by decide) (by decide) q,within_eq,Option.bind_some,Option.bind_some]
 by_cases h:fine 7 e
 ·rw [if_pos h,decide_eq_true h]
  obtain ⟨r,h1,h2⟩:=nodes_eq 7 100000 e (by decide) q (List.length_eq_zero_iff.1 h.1)
  dsimp only
  rw [if_neg (by decide),if_neg (by decide),h1,h2]
  exact ⟨_,rfl,rfl⟩
 ·rw [if_neg h,decide_eq_false h]
  exact ⟨1,rfl,rfl⟩
end Go.Proofs.YthnkbagmaljjjaaGreatDoor.VM

/- Words and rules that the proof uses. -/
namespace Go.Proofs.YthnkbagmaljjjaaGreatDoor.VM
open Go Go.RowKit
theorem loop_passes {step:Int→Option (Int⊕(Int⊕Unit))} (n:Nat) (hn:n < 9223372036854775807) (hs:∀ k,k < n→step (k:Int)=some (.inl (w64 ((k:Int)+1)))∨∃ r,r≠0∧step (k:Int)=some (.inr (.inl r))) (he:step (n:Int)=some (.inr (.inr ()))) :
  ∃ o,loopO step (0:Int)=some o∧match o with | .inl y=>y≠0 | .inr _=>∀ k,k < n→step (k:Int)=some (.inl (w64 ((k:Int)+1))):=by
 refine loopO_times (step:=step) n (fun k (_:Unit)=>(k:Int)) (fun k _=>∀ j,j < k→step (j:Int)=some (.inl (w64 ((j:Int)+1)))) _ (fun k _ hk hi=>?_) (fun _ hi=>⟨_,he,hi⟩) (s:=()) (fun j hj=>by omega)
 rcases hs k hk with h | ⟨r,hr,h⟩
 ·left
  refine ⟨(),by rw [h,w64_succ (by omega)],fun j hj=>?_⟩
  rcases Nat.lt_or_ge j k with h1 | h1
  ·exact hi j h1
  ·rw [show j=k by omega]; exact h
 ·exact .inr ⟨_,h,hr⟩
theorem down_any {α:Type} [Inhabited α] {step:Int→Option (Int⊕(Int⊕Unit))} (l:List α) (p:α→Bool) (hl:l.length < 9223372036854775807) (hs:∀ k,k < l.length→step (k:Int)=some (if p (lrd l k)=true then .inr (.inl (k:Int)) else .inl (w64 ((k:Int) - 1)))) (he:step (-1)=some (.inr (.inr ()))) :
  ∀ j,j≤l.length→∃ o,loopO step ((j:Int) - 1)=some o∧match o with | .inl r=>0≤r∧(l.take j).any p=true | .inr _=>(l.take j).any p=false:=by
 intro j
 induction j with
 | zero=>intro _; exact ⟨.inr (),loopO_done he,rfl⟩
 | succ j ih =>
  intro hj
  rw [show ((j+1:Nat):Int) - 1=(j:Int) by omega]
  have h1:=hs j (by omega)
  by_cases hp:p (lrd l j)=true
  ·rw [if_pos hp] at h1
   refine ⟨_,loopO_done h1,by omega,?_⟩
   rw [take_step (by omega),List.any_append,List.any_cons,List.any_nil,hp]
   simp
  ·rw [if_neg hp,w64_id (by omega)] at h1
   obtain ⟨o,h2,h3⟩:=ih (by omega)
   refine ⟨o,by rw [loopO_next h1]; exact h2,?_⟩
   have e:(l.take (j+1)).any p=(l.take j).any p:=by
    rw [take_step (by omega),List.any_append,List.any_cons,List.any_nil,Bool.eq_false_iff.2 hp]
    simp
   rw [e]
   exact h3
theorem columnAt_eq (l:List GColumn) (n:List UInt8) (hl:l.length < 9223372036854775807):∃ r,g_ref_columnAt l n=some r∧(r≥0↔(l.any fun c=>decide (c.Name=n))=true):=by
 obtain ⟨o,h1,h2⟩:=down_any (step:=g_ref_columnAt_l0 l n) l (fun c=>decide (c.Name=n)) hl (fun k hk=>by
  unfold g_ref_columnAt_l0
  dsimp only
  rw [if_pos (by omega),if_pos (natIn hk),Int.toNat_natCast]
  by_cases h1:(lrd l k).Name=n
  ·rw [if_pos h1,if_pos (decide_eq_true h1)]
  ·rw [if_neg h1,if_neg (by rw [decide_eq_false h1]; decide)]) (by
  unfold g_ref_columnAt_l0
  dsimp only
  rw [if_neg (by decide)]) l.length (Nat.le_refl _)
 unfold g_ref_columnAt
 rw [w64_id (by omega),h1,Option.bind_some]
 rw [List.take_length] at h2
 cases o with
 | inl r=>exact ⟨r,rfl,by simp only at h2; simp [h2.1,h2.2]⟩
 | inr u=>exact ⟨-1,rfl,by simp only at h2; simp [h2]⟩
theorem twice_eq (cols:List GColumn) (t:Int) (ht:0≤t∧t < (cols.length:Int)) (hl:cols.length < 9223372036854775807):loopO (g_kinds_Columns_l1 cols t) (0:Int)=some (if ((cut cols 0 t).any fun d=>decide (d.Name=(lrd cols t.toNat).Name))=true then .inl 8 else .inr ()):=by
 have hc:(cut cols 0 t).length≤cols.length:=by rw [cut_len ⟨Int.le_refl _,ht.1,by omega⟩]; omega
 exact any_loop (step:=g_kinds_Columns_l1 cols t) (cut cols 0 t) (fun d=>decide (d.Name=(lrd cols t.toNat).Name)) (.inl 8) (.inr ()) (by omega) (fun k hk=>by
  unfold g_kinds_Columns_l1
  dsimp only
  rw [if_pos (natLt hk),if_pos (natIn hk),Int.toNat_natCast]
  by_cases h1:(lrd (cut cols 0 t) k).Name=(lrd cols t.toNat).Name
  ·rw [if_pos h1,if_pos (decide_eq_true h1)]
  ·rw [if_neg h1,if_neg (by rw [decide_eq_false h1]; decide)]) (by
  unfold g_kinds_Columns_l1
  dsimp only
  rw [if_neg natNlt])
theorem colStep (cols:List GColumn) (hl:cols.length < 9223372036854775807) (hc:∀ c∈cols,c.Name.length < 9223372036854775807):g_kinds_Columns_l0 cols=g_ref_ColumnsFault_l0 cols:=by
 funext t
 unfold g_kinds_Columns_l0 g_ref_ColumnsFault_l0
 dsimp only
 by_cases h:t < (cols.length:Int)
 ·rw [if_pos h,if_pos h]
  by_cases h0:0≤t∧t < (cols.length:Int)
  ·have hn:=hc (lrd cols t.toNat) (lrd_mem (by omega))
   have ht:0≤t∧t≤(cols.length:Int):=by omega
   have hcl:(cut cols 0 t).length≤cols.length:=by rw [cut_len ⟨Int.le_refl _,ht.1,by omega⟩]; omega
   rw [if_pos h0,if_pos h0,name_eq _ hn,isName_eq _ hn,Option.bind_some,Option.bind_some]
   unfold wrong
   by_cases h1:((lrd cols t.toNat).Name.length:Int) > 8
   ·rw [if_pos h1,if_pos (show (1:Int)≠0 by decide),if_pos (.inr h1)]
   ·rw [if_neg h1]
    by_cases h2:isNm (lrd cols t.toNat).Name=true
    ·rw [if_pos h2,if_neg (show ¬ ((0:Int)≠0) by decide),if_neg (show ¬ ((!(isNm (lrd cols t.toNat).Name))=true∨((lrd cols t.toNat).Name.length:Int) > 8) by rw [h2]; intro hh; rcases hh with hh | hh; exact absurd hh (by decide); exact h1 hh),letO_eq]
     by_cases h3:(lrd cols t.toNat).Kind < 1∨(lrd cols t.toNat).Kind > 4
     ·rw [if_pos h3,if_pos (decide_eq_true (by omega))]
     ·rw [if_neg h3,if_neg (show ¬ (decide _=true) by rw [decide_eq_true_eq]; omega),if_pos ht,if_pos ht,twice_eq cols t h0 hl]
      obtain ⟨r,h4,h5⟩:=columnAt_eq (cut cols 0 t) (lrd cols t.toNat).Name (by omega)
      rw [h4,Option.bind_some,Option.bind_some]
      by_cases h6:((cut cols 0 t).any fun d=>decide (d.Name=(lrd cols t.toNat).Name))=true
      ·rw [if_pos h6,if_pos (h5.2 h6)]
      ·rw [if_neg h6,if_neg (fun q=>h6 (h5.1 q))]
    ·rw [if_neg h2,if_pos (show (3:Int)≠0 by decide),if_pos (.inl (by rw [Bool.eq_false_iff.2 h2]; rfl))]
  ·rw [if_neg h0,if_neg h0]
 ·rw [if_neg h,if_neg h]
theorem cols_eq (cols:List GColumn) (hl:cols.length < 9223372036854775807) (hc:∀ c∈cols,c.Name.length < 9223372036854775807):∃ e,g_kinds_Columns cols=some e∧g_ref_ColumnsFault cols=some e:=by
 unfold g_kinds_Columns g_ref_ColumnsFault
 rw [colStep cols hl hc]
 by_cases h:(cols.length:Int) > 5
 ·simp only [if_pos h]; exact ⟨_,rfl,rfl⟩
 ·simp only [if_neg h]
  have:∃ r,loopO (g_ref_ColumnsFault_l0 cols) (0:Int)=some r∧True:=by
   refine loopO_times (step:=g_ref_ColumnsFault_l0 cols) cols.length (fun k (_:Unit)=>(k:Int)) (fun _ _=>True) (fun _=>True) (fun k _ hk _=>?_) (fun _ _=>?_) (s:=()) trivial
   ·unfold g_ref_ColumnsFault_l0
    dsimp only
    have hn:=hc (lrd cols k) (lrd_mem hk)
    rw [if_pos (natLt hk),if_pos (natIn hk),Int.toNat_natCast,isName_eq _ hn,Option.bind_some]
    split
    ·exact .inr ⟨_,rfl,trivial⟩
    ·rw [letO_eq]
     split
     ·exact .inr ⟨_,rfl,trivial⟩
     ·have hcl:(cut cols 0 (k:Int)).length≤cols.length:=by rw [cut_len ⟨Int.le_refl _,by omega,by omega⟩]; omega
      obtain ⟨r,h4,_⟩:=columnAt_eq (cut cols 0 (k:Int)) (lrd cols k).Name (by omega)
      rw [if_pos (by omega),h4,Option.bind_some]
      split
      ·exact .inr ⟨_,rfl,trivial⟩
      ·exact .inl ⟨(),by rw [w64_succ (by omega)],trivial⟩
   ·unfold g_ref_ColumnsFault_l0
    dsimp only
    rw [if_neg natNlt]
    exact ⟨_,rfl,trivial⟩
  obtain ⟨r,hr,_⟩:=this
  rw [hr,Option.bind_some]
  cases r with
  | inl y=>exact ⟨y,rfl,rfl⟩
  | inr y=>exact ⟨0,rfl,rfl⟩
theorem colsOk {cols:List GColumn} (q:(okL 32 GColumn.ok) cols):cols.length < 9223372036854775807∧∀ c∈cols,c.Name.length < 9223372036854775807 :=
 ⟨Nat.lt_of_le_of_lt (Nat.le_mul_of_pos_right _ (by decide)) (Nat.lt_of_le_of_lt q.1 (by decide)),fun c hc=>Nat.lt_of_le_of_lt (q.2.2 c hc).1 (by decide)⟩
end Go.Proofs.YthnkbagmaljjjaaGreatDoor.VM

/- Words and rules that the proof uses. -/
namespace Go.Proofs.YthnkbagmaljjjaaGreatDoor.VM
open Go Go.RowKit
def goodE:Nat→GExpr→Prop
 | 0,_=>False
 | m+1,e=>(1≤e.Op∧e.Op≤20)∧g_expr_wants e.Op=some (e.Args.length:Int)∧(e.Op=1→0≤e.Value.Kind∧e.Value.Kind≤4)∧∀ k,k < e.Args.length→goodE m (lrd e.Args k)
theorem node_good {e:GExpr} (q:GExpr.ok e) (h:g_expr_node e=some 0):(1≤e.Op∧e.Op≤20)∧g_expr_wants e.Op=some (e.Args.length:Int)∧(e.Op=1→0≤e.Value.Kind∧e.Value.Kind≤4):=by
 obtain ⟨_,hvi,hnm,_,_⟩:=exOk q
 unfold g_expr_node at h
 by_cases hop:(e.Op < (1:Int))∨(e.Op > (20:Int))
 ·rw [if_pos hop] at h; cases h
 ·have hop2:1≤e.Op∧e.Op≤20:=by omega
  rw [if_neg hop,wants_eq hop2,Option.bind_some] at h
  rw [wants_eq hop2]
  refine ⟨hop2,?_,fun h1=>?_⟩
  ·generalize (lrd _ e.Op.toNat:Int)=W at h ⊢
   by_cases hlen:(e.Args.length:Int)≠W
   ·rw [if_pos hlen] at h; cases h
   ·congr 1; omega
  ·generalize (lrd _ e.Op.toNat:Int)=W at h
   by_cases hlen:(e.Args.length:Int)≠W
   ·rw [if_pos hlen] at h; cases h
   ·rw [if_neg hlen] at h
    split at h
    ·cases h
    ·rw [if_neg (show ¬ e.Op=2 by omega),Option.bind_some,if_neg (show ¬ (false=true) by decide)] at h
     try rw [if_pos h1] at h
     obtain ⟨ve,hv1,_,hv3⟩:=check_eq e.Value hvi
     rw [hv1,Option.bind_some] at h
     by_cases hve:ve≠0
     ·rw [if_pos hve,Option.bind_some,if_pos rfl] at h; cases h
     ·have:=hv3 (by omega)
      exact ⟨this.1,this.2.1⟩
theorem nodes_good:∀ (m f:Nat) (e:GExpr),m < f→GExpr.ok e→lev m [e]=[]→g_expr_nodes f e=some 0→goodE m e
 | _,0,_,h,_,_,_=>by omega
 | 0,_,_,_,_,h,_=>by cases h
 | m+1,f+1,e,hf,q,hv,h=>by
  obtain ⟨_,_,_,hl,hargs⟩:=exOk q
  obtain ⟨own,h1,_⟩:=node_eq q
  unfold g_expr_nodes g_expr_nodes_b at h
  rw [h1,Option.bind_some] at h
  by_cases ho:own≠0
  ·rw [if_pos ho] at h
   exact absurd (Option.some.inj h) ho
  ·have ho0:own=0:=by omega
   rw [if_neg ho] at h
   rw [ho0] at h1
   rw [lev,one_args] at hv
   obtain ⟨g1,g2,g3⟩:=node_good q h1
   obtain ⟨o,h2,h3⟩:=loop_passes (step:=g_expr_nodes_l0 e (g_expr_nodes f)) e.Args.length (by omega) (fun k hk=>by
    unfold g_expr_nodes_l0
    dsimp only
    obtain ⟨r,h5,_⟩:=nodes_eq m f (lrd e.Args k) (by omega) (hargs _ (lrd_mem hk)) (lev_part hk hv)
    rw [if_pos (natLt hk),if_pos (natIn hk),Int.toNat_natCast,h5,Option.bind_some]
    by_cases hr:r≠0
    ·rw [if_pos hr]; exact .inr ⟨r,hr,rfl⟩
    ·rw [if_neg hr]; exact .inl rfl) (by
    unfold g_expr_nodes_l0
    dsimp only
    rw [if_neg natNlt])
   rw [h2,Option.bind_some] at h
   cases o with
   | inl y=>exact absurd (Option.some.inj h) h3
   | inr u =>
    refine ⟨g1,g2,g3,fun k hk=>?_⟩
    have h4:=h3 k hk
    obtain ⟨r,h5,_⟩:=nodes_eq m f (lrd e.Args k) (by omega) (hargs _ (lrd_mem hk)) (lev_part hk hv)
    unfold g_expr_nodes_l0 at h4
    dsimp only at h4
    rw [if_pos (natLt hk),if_pos (natIn hk),Int.toNat_natCast,h5,Option.bind_some] at h4
    by_cases hr:r≠0
    ·rw [if_pos hr] at h4; cases h4
    ·have hr0:r=0:=by omega
     rw [hr0] at h5
     exact nodes_good m f (lrd e.Args k) (by omega) (hargs _ (lrd_mem hk)) (lev_part hk hv) h5
theorem check_good {e:GExpr} (q:GExpr.ok e) (h:g_expr_Check e=some 0):goodE 7 e:=by
 unfold g_expr_Check at h
 rw [size_eq 7 100000 e 1 (by decide) (by decide) (by decide) q,Option.bind_some] at h
 by_cases hf:fine 7 e
 ·rw [if_pos hf] at h
  dsimp only at h
  rw [if_neg (by decide)] at h
  obtain ⟨r,h1,_⟩:=nodes_eq 7 100000 e (by decide) q (List.length_eq_zero_iff.1 hf.1)
  rw [h1,Option.bind_some] at h
  rw [Option.some.inj h] at h1
  exact nodes_good 7 100000 e (by decide) q (List.length_eq_zero_iff.1 hf.1) h1
 ·rw [if_neg hf] at h
  cases h
structure colsFine (cols:List GColumn):Prop where
 kinds:∀ k,k < cols.length→1≤(lrd cols k).Kind∧(lrd cols k).Kind≤4
 once:∀ i j,i < cols.length→j < cols.length→(lrd cols i).Name=(lrd cols j).Name→i=j
theorem cols_fine {cols:List GColumn} (hl:cols.length < 9223372036854775807) (hc:∀ c∈cols,c.Name.length < 9223372036854775807) (h:g_kinds_Columns cols=some 0):colsFine cols:=by
 have hstep:∀ k,k < cols.length→g_kinds_Columns_l0 cols (k:Int)=if wrong (((lrd cols k).Name.length:Int) > 8) (isNm (lrd cols k).Name=true)≠0 then some (.inr (.inl 3)) else if (lrd cols k).Kind < 1∨(lrd cols k).Kind > 4 then some (.inr (.inl 2)) else if ((cut cols 0 (k:Int)).any fun d=>decide (d.Name=(lrd cols k).Name))=true then some (.inr (.inl 8)) else some (.inl (w64 ((k:Int)+1))):=by
  intro k hk
  unfold g_kinds_Columns_l0
  dsimp only
  rw [if_pos (natLt hk),if_pos (natIn hk),Int.toNat_natCast,name_eq _ (hc _ (lrd_mem hk)),Option.bind_some,if_pos (show (0:Int)≤(k:Int)∧(k:Int)≤(cols.length:Int) by omega)]
  have ht:=twice_eq cols (k:Int) (natIn hk) hl
  rw [Int.toNat_natCast] at ht
  rw [ht,Option.bind_some]
  by_cases hw:wrong (((lrd cols k).Name.length:Int) > 8) (isNm (lrd cols k).Name=true)≠0
  ·rw [if_pos hw,if_pos hw]
  ·rw [if_neg hw,if_neg hw]
   by_cases hkd:(lrd cols k).Kind < 1∨(lrd cols k).Kind > 4
   ·rw [if_pos hkd,if_pos hkd]
   ·rw [if_neg hkd,if_neg hkd]
    by_cases ha:((cut cols 0 (k:Int)).any fun d=>decide (d.Name=(lrd cols k).Name))=true
    ·simp only [if_pos ha]
    ·simp only [if_neg ha]
 unfold g_kinds_Columns at h
 by_cases h5:(cols.length:Int) > 5
 ·rw [if_pos h5] at h; cases h
 ·rw [if_neg h5] at h
  obtain ⟨o,h1,h2⟩:=loop_passes (step:=g_kinds_Columns_l0 cols) cols.length hl (fun k hk=>by
   rw [hstep k hk]
   split
   ·exact .inr ⟨3,by decide,rfl⟩
   ·split
    ·exact .inr ⟨2,by decide,rfl⟩
    ·split
     ·exact .inr ⟨8,by decide,rfl⟩
     ·exact .inl rfl) (by
   unfold g_kinds_Columns_l0
   dsimp only
   rw [if_neg natNlt])
  rw [h1,Option.bind_some] at h
  cases o with
  | inl y=>exact absurd (Option.some.inj h) h2
  | inr u =>
   have h3:∀ k,k < cols.length→¬ ((lrd cols k).Kind < 1∨(lrd cols k).Kind > 4)∧¬ (((cut cols 0 (k:Int)).any fun d=>decide (d.Name=(lrd cols k).Name))=true):=by
    intro k hk
    have h4:=h2 k hk
    rw [hstep k hk] at h4
    split at h4
    ·cases h4
    ·split at h4
     ·cases h4
     ·split at h4
      ·cases h4
      ·exact ⟨by assumption,by assumption⟩
   have hlt:∀ i j,i < j→j < cols.length→(lrd cols i).Name≠(lrd cols j).Name:=by
    intro i j hij hj he
    refine (h3 j hj).2 (List.any_eq_true.2 ⟨lrd cols i,?_,decide_eq_true he⟩)
    rw [show cut cols 0 (j:Int)=cols.take j by simp only [cut,Int.toNat_zero,Int.toNat_natCast,List.drop_zero,Nat.sub_zero]]
    have:lrd (cols.take j) i=lrd cols i:=by
     rw [lrd_at (by rw [List.length_take]; omega),lrd_at (by omega),List.getElem_take]
    rw [← this]
    exact lrd_mem (by rw [List.length_take]; omega)
   refine ⟨fun k hk=>by have:=(h3 k hk).1; omega,fun i j hi hj he=>?_⟩
   rcases Nat.lt_trichotomy i j with h4 | h4 | h4
   ·exact absurd he (hlt i j h4 hj)
   ·exact h4
   ·exact absurd he.symm (hlt j i h4 hi)
theorem down_idx {α:Type} [Inhabited α] {step:Int→Option (Int⊕(Int⊕Unit))} (l:List α) (p:α→Bool) (hl:l.length < 9223372036854775807) (hs:∀ k,k < l.length→step (k:Int)=some (if p (lrd l k)=true then .inr (.inl (k:Int)) else .inl (w64 ((k:Int) - 1)))) (he:step (-1)=some (.inr (.inr ()))) :
  ∀ j,j≤l.length→∃ o,loopO step ((j:Int) - 1)=some o∧match o with | .inl r=>∃ i,i < l.length∧r=(i:Int)∧p (lrd l i)=true | .inr _=>∀ i,i < j→p (lrd l i)=false:=by
 intro j
 induction j with
 | zero=>intro _; exact ⟨.inr (),loopO_done he,fun i hi=>by omega⟩
 | succ j ih =>
  intro hj
  rw [show ((j+1:Nat):Int) - 1=(j:Int) by omega]
  have h1:=hs j (by omega)
  by_cases hp:p (lrd l j)=true
  ·rw [if_pos hp] at h1
   exact ⟨_,loopO_done h1,j,by omega,rfl,hp⟩
  ·rw [if_neg hp,w64_id (by omega)] at h1
   obtain ⟨o,h2,h3⟩:=ih (by omega)
   refine ⟨o,by rw [loopO_next h1]; exact h2,?_⟩
   cases o with
   | inl r=>exact h3
   | inr u =>
    intro i hi
    rcases Nat.lt_or_ge i j with h4 | h4
    ·exact h3 i h4
    ·rw [show i=j by omega]; exact Bool.eq_false_iff.2 hp
theorem colAt (l:List GColumn) (n:List UInt8) (hl:l.length < 9223372036854775807):(∃ i,i < l.length∧(lrd l i).Name=n∧g_ref_columnAt l n=some (i:Int))∨((∀ i,i < l.length→(lrd l i).Name≠n)∧g_ref_columnAt l n=some (-1)):=by
 obtain ⟨o,h1,h2⟩:=down_idx (step:=g_ref_columnAt_l0 l n) l (fun c=>decide (c.Name=n)) hl (fun k hk=>by
  unfold g_ref_columnAt_l0
  dsimp only
  rw [if_pos (by omega),if_pos (natIn hk),Int.toNat_natCast]
  by_cases h1:(lrd l k).Name=n
  ·rw [if_pos h1,if_pos (decide_eq_true h1)]
  ·rw [if_neg h1,if_neg (by rw [decide_eq_false h1]; decide)]) (by
  unfold g_ref_columnAt_l0
  dsimp only
  rw [if_neg (by decide)]) l.length (Nat.le_refl _)
 unfold g_ref_columnAt
 rw [w64_id (by omega),h1,Option.bind_some]
 cases o with
 | inl r =>
  obtain ⟨i,hi,rfl,hp⟩:=h2
  exact .inl ⟨i,hi,of_decide_eq_true hp,rfl⟩
 | inr u=>exact .inr ⟨fun i hi=>of_decide_eq_false (h2 i hi),rfl⟩
theorem of_col (e:GExpr) (cols:List GColumn) (hl:cols.length < 9223372036854775807):∃ r,loopO (g_kinds_of_l0 e cols) (0:Int)=some r∧((∃ i,i < cols.length∧(lrd cols i).Name=e.Name∧r=.inl (⟨(lrd cols i).Kind,(lrd cols i).Null⟩,0))∨((∀ i,i < cols.length→(lrd cols i).Name≠e.Name)∧r=.inr ())):=by
 refine loopO_times (step:=g_kinds_of_l0 e cols) cols.length (fun k (_:Unit)=>(k:Int)) (fun k _=>∀ i,i < k→(lrd cols i).Name≠e.Name) _ (fun k _ hk hi=>?_) (fun _ hi=>?_) (s:=()) (fun i hi=>by omega)
 ·unfold g_kinds_of_l0
  dsimp only
  rw [if_pos (natLt hk),if_pos (natIn hk),Int.toNat_natCast]
  by_cases h:(lrd cols k).Name=e.Name
  ·right
   exact ⟨.inl (⟨(lrd cols k).Kind,(lrd cols k).Null⟩,0),by rw [if_pos h,letO_eq],.inl ⟨k,hk,h,rfl⟩⟩
  ·left
   refine ⟨(),by rw [if_neg h,w64_succ (by omega)],fun i hik=>?_⟩
   rcases Nat.lt_or_ge i k with h4 | h4
   ·exact hi i h4
   ·rw [show i=k by omega]; exact h
 ·unfold g_kinds_of_l0
  dsimp only
  rw [if_neg natNlt]
  exact ⟨_,rfl,.inr ⟨hi,rfl⟩⟩
def fitB (s:Gkinds_sort) (kind:Int):Bool:=decide (s.kind_=kind∨s.kind_=0)
theorem two_front {l:Vector Gkinds_sort 2} {n k:Nat} (hk:k < n) (hn:n≤2):lrd (List.take (n:Int).toNat l.toList) k=vrd l k∧k < (List.take (n:Int).toNat l.toList).length:=by
 have hlen:l.toList.length=2:=vlen l
 have h2:k < (List.take (n:Int).toNat l.toList).length:=by rw [List.length_take,Int.toNat_natCast]; omega
 refine ⟨?_,h2⟩
 rw [lrd_at h2,List.getElem_take,← lrd_vec,lrd_at (by omega)]
theorem asks_step (kind:Int) (l:Vector Gkinds_sort 2) {n k:Nat} (hk:k < n) (hn:n≤2) (s:Gkinds_sort):g_kinds_joined_1_i0_l0 kind l (n:Int) ((k:Int),s)=if fitB (vrd l k) kind=true then some (.inl (((k+1:Nat):Int),{ s with null_:=(s.null_ || (vrd l k).null_) })) else some (.inr (.inl (Gkinds_sort.zero,2))):=by
 obtain ⟨h1,h2⟩:=two_front (l:=l) hk hn
 unfold g_kinds_joined_1_i0_l0 g_kinds_sort_fits
 dsimp only
 rw [if_pos (natLt h2),if_pos (natIn h2),Int.toNat_natCast (n:=k),h1,Option.bind_some,w64_succ (by omega),letO_eq]
 unfold fitB
 by_cases h:(vrd l k).kind_=kind∨(vrd l k).kind_=0
 ·rw [decide_eq_true h,if_neg (by decide),if_pos rfl,Bool.decide_or]
  simp
 ·rw [decide_eq_false h,if_pos (by decide),if_neg (by decide)]
theorem asks_done (kind:Int) (l:Vector Gkinds_sort 2) {n:Nat} (hn:n≤2) (s:Gkinds_sort):g_kinds_joined_1_i0_l0 kind l (n:Int) ((n:Int),s)=some (.inr (.inr s)):=by
 unfold g_kinds_joined_1_i0_l0
 dsimp only
 have hlen:l.toList.length=2:=vlen l
 rw [if_neg (by rw [List.length_take,Int.toNat_natCast]; omega)]
theorem asks_one (kind gives:Int) (l:Vector Gkinds_sort 2):g_kinds_joined_1_i0 kind gives l (1:Int)=some (if fitB (vrd l 0) kind=true then (⟨gives,(vrd l 0).null_⟩,0) else (Gkinds_sort.zero,2)):=by
 unfold g_kinds_joined_1_i0
 rw [if_pos (by decide)]
 have h0:=asks_step kind l (n:=1) (k:=0) (by decide) (by decide) { Gkinds_sort.zero with kind_:=gives }
 by_cases h:fitB (vrd l 0) kind=true
 ·rw [if_pos h] at h0 ⊢
  have h1:=asks_done kind l (n:=1) (by decide) { ({ Gkinds_sort.zero with kind_:=gives }:Gkinds_sort) with null_:=(({ Gkinds_sort.zero with kind_:=gives }:Gkinds_sort).null_ || (vrd l 0).null_) }
  have h2:=(loopO_next h0).trans (loopO_done h1)
  rw [show (loopO (g_kinds_joined_1_i0_l0 kind l 1) ((0:Int),({ Gkinds_sort.zero with kind_:=gives }:Gkinds_sort)))=_ from h2]
  rfl
 ·rw [if_neg h] at h0 ⊢
  rw [show (loopO (g_kinds_joined_1_i0_l0 kind l 1) ((0:Int),({ Gkinds_sort.zero with kind_:=gives }:Gkinds_sort)))=_ from loopO_done h0]
  rfl
theorem asks_two (kind gives:Int) (l:Vector Gkinds_sort 2):g_kinds_joined_1_i0 kind gives l (2:Int)=some (if fitB (vrd l 0) kind=true∧fitB (vrd l 1) kind=true then (⟨gives,(vrd l 0).null_ || (vrd l 1).null_⟩,0) else (Gkinds_sort.zero,2)):=by
 unfold g_kinds_joined_1_i0
 rw [if_pos (by decide)]
 have h0:=asks_step kind l (n:=2) (k:=0) (by decide) (by decide) { Gkinds_sort.zero with kind_:=gives }
 by_cases h:fitB (vrd l 0) kind=true
 ·rw [if_pos h] at h0
  have h1:=asks_step kind l (n:=2) (k:=1) (by decide) (by decide) { ({ Gkinds_sort.zero with kind_:=gives }:Gkinds_sort) with null_:=(({ Gkinds_sort.zero with kind_:=gives }:Gkinds_sort).null_ || (vrd l 0).null_) }
  by_cases hb:fitB (vrd l 1) kind=true
  ·rw [if_pos hb] at h1
   rw [if_pos ⟨h,hb⟩]
   have h2:=asks_done kind l (n:=2) (by decide) ⟨gives,(false || (vrd l 0).null_) || (vrd l 1).null_⟩
   have h3:=(loopO_next h0).trans ((loopO_next h1).trans (loopO_done h2))
   rw [show (loopO (g_kinds_joined_1_i0_l0 kind l 2) ((0:Int),({ Gkinds_sort.zero with kind_:=gives }:Gkinds_sort)))=_ from h3]
   rfl
  ·rw [if_neg hb] at h1
   rw [if_neg (fun q=>hb q.2)]
   have h3:=(loopO_next h0).trans (loopO_done h1)
   rw [show (loopO (g_kinds_joined_1_i0_l0 kind l 2) ((0:Int),({ Gkinds_sort.zero with kind_:=gives }:Gkinds_sort)))=_ from h3]
   rfl
 ·rw [if_neg h] at h0
  rw [if_neg (fun q=>h q.1),show (loopO (g_kinds_joined_1_i0_l0 kind l 2) ((0:Int),({ Gkinds_sort.zero with kind_:=gives }:Gkinds_sort)))=_ from loopO_done h0]
  rfl
end Go.Proofs.YthnkbagmaljjjaaGreatDoor.VM

/- Words and rules that the proof uses. -/
namespace Go.Proofs.YthnkbagmaljjjaaGreatDoor.VM
open Go Go.RowKit
theorem dor (a b:Bool):decide (a=true∨b=true)=(a || b):=by cases a<;>cases b<;>rfl
theorem dand (a b:Bool):decide (a=true∧b=true)=(a && b):=by cases a<;>cases b<;>rfl
def bothK (a b:Gkinds_sort):Int:=if a.kind_=0 then b.kind_ else a.kind_
theorem with_eq (a b:Gkinds_sort):g_kinds_sort_with a b=some ⟨bothK a b,a.null_ || b.null_⟩:=by
 unfold g_kinds_sort_with bothK
 by_cases h:a.kind_=0
 ·rw [if_pos h,if_pos h,Option.bind_some,letO_eq,dor]
 ·rw [if_neg h,if_neg h,Option.bind_some,letO_eq,dor]
theorem joined_cmp {op:Int} (h:op=9∨op=10∨op=11∨op=12∨op=13∨op=14∨op=20) (l:Vector Gkinds_sort 2):g_kinds_joined op 2 l=some (if fitB (vrd l 0) (bothK (vrd l 0) (vrd l 1))=true∧fitB (vrd l 1) (bothK (vrd l 0) (vrd l 1))=true then (if op=20 then (⟨bothK (vrd l 0) (vrd l 1),(vrd l 0).null_ && (vrd l 1).null_⟩,0) else (⟨1,(vrd l 0).null_ || (vrd l 1).null_⟩,0)) else (Gkinds_sort.zero,2)):=by
 have key:g_kinds_joined op 2 l=((g_kinds_sort_with (vrd l 0) (vrd l 1)).bind fun r'7=>((g_kinds_sort_fits (vrd l 0) r'7.kind_).bind fun r'10=>(if (!r'10)=true then some true else (g_kinds_sort_fits (vrd l 1) r'7.kind_).bind fun r'11=>some (!r'11))).bind fun g'12=>(if g'12=true then some (Gkinds_sort.zero,(2:Int)) else (if op=(20:Int) then letO ({ { Gkinds_sort.zero with kind_:=r'7.kind_ } with null_:=(decide ((((vrd l 0).null_)=true)∧(((vrd l 1).null_)=true))) }) fun t6'13=>some (t6'13,(0:Int)) else letO ({ { Gkinds_sort.zero with kind_:=(1:Int) } with null_:=r'7.null_ }) fun t6'14=>some (t6'14,(0:Int))))):=by
  rcases h with rfl | rfl | rfl | rfl | rfl | rfl | rfl<;>rfl
 rw [key,with_eq,Option.bind_some]
 unfold g_kinds_sort_fits
 dsimp only
 rw [Option.bind_some,Option.bind_some,letO_eq,letO_eq,dand]
 have e0:decide ((vrd l 0).kind_=bothK (vrd l 0) (vrd l 1)∨(vrd l 0).kind_=0)=fitB (vrd l 0) (bothK (vrd l 0) (vrd l 1)):=rfl
 have e1:decide ((vrd l 1).kind_=bothK (vrd l 0) (vrd l 1)∨(vrd l 1).kind_=0)=fitB (vrd l 1) (bothK (vrd l 0) (vrd l 1)):=rfl
 rw [e0,e1]
 by_cases h0:fitB (vrd l 0) (bothK (vrd l 0) (vrd l 1))=true
 ·rw [h0,if_neg (by decide)]
  by_cases h1:fitB (vrd l 1) (bothK (vrd l 0) (vrd l 1))=true
  ·rw [h1,Option.bind_some,if_neg (by decide),if_pos (show true=true∧true=true from ⟨rfl,rfl⟩)]
   by_cases h2:op=20
   ·rw [if_pos h2,if_pos h2]
   ·rw [if_neg h2,if_neg h2]
  ·rw [Bool.eq_false_iff.2 h1,Option.bind_some,if_pos (by decide),if_neg (by simp)]
 ·rw [Bool.eq_false_iff.2 h0,if_pos (by decide),Option.bind_some,if_pos rfl,if_neg (by simp)]
section
variable {e:GExpr} {cols:List GColumn} {RP:GExpr→List GColumn→Option (Gkinds_sort×Int)} {RR:GExpr→List GColumn→Option (Int×Bool×Int)}
theorem pstep {k:Nat} (hk:k < e.Args.length) (hk2:k < 2) {s:Gkinds_sort} {er:Int} (h:RP (lrd e.Args k) cols=some (s,er)) (l:Vector Gkinds_sort 2):g_kinds_of_l1 e cols RP ((k:Int),l)=if er≠0 then some (.inr (.inl (Gkinds_sort.zero,er))) else some (.inl (((k+1:Nat):Int),vwr l k s)):=by
 unfold g_kinds_of_l1
 dsimp only
 rw [if_pos (natLt hk),if_pos (natIn hk),Int.toNat_natCast,h,Option.bind_some,if_pos (show (0:Int)≤(k:Int)∧(k:Int) < 2 by omega),w64_succ (by omega)]
theorem pdone {k:Nat} (hk:k=e.Args.length) (l:Vector Gkinds_sort 2):g_kinds_of_l1 e cols RP ((k:Int),l)=some (.inr (.inr l)):=by
 subst hk
 unfold g_kinds_of_l1
 dsimp only
 rw [if_neg natNlt]
theorem rstep {k:Nat} (hk:k < e.Args.length) (hk2:k < 2) {kd:Int} {nl:Bool} (h:RR (lrd e.Args k) cols=some (kd,nl,0)) (so al cl:Bool) (as_:Int):g_ref_kindOf_l0 e cols RR (so,al,as_,cl,(k:Int))=some (.inl (so || nl,al && nl,if e.Op=17∨kd=0 then as_ else if as_=0 then kd else as_,if e.Op=17∨kd=0 then cl else (cl || decide (kd≠if as_=0 then kd else as_)),((k+1:Nat):Int))):=by
 unfold g_ref_kindOf_l0
 dsimp only
 rw [if_pos (natLt hk),if_pos (natIn hk),Int.toNat_natCast,h,Option.bind_some,if_neg (fun q=>q rfl),w64_succ (by omega),dor,dand]
 by_cases h1:e.Op=17∨kd=0
 ·rw [if_pos h1,if_pos h1,if_pos h1]; rfl
 ·rw [if_neg h1,if_neg h1,if_neg h1]
  by_cases h2:as_=0
  ·rw [if_pos h2,if_pos h2,Option.bind_some]
   simp
  ·rw [if_neg h2,if_neg h2,Option.bind_some]
   cases cl<;>simp
theorem rfail {k:Nat} (hk:k < e.Args.length) {er:Int} (he:er≠0) (h:RR (lrd e.Args k) cols=some (0,false,er)) (so al cl:Bool) (as_:Int):g_ref_kindOf_l0 e cols RR (so,al,as_,cl,(k:Int))=some (.inr (.inl (0,false,er))):=by
 unfold g_ref_kindOf_l0
 dsimp only
 rw [if_pos (natLt hk),if_pos (natIn hk),Int.toNat_natCast,h,Option.bind_some,if_pos he]
 rfl
theorem rdone {k:Nat} (hk:k=e.Args.length) (so al cl:Bool) (as_:Int):g_ref_kindOf_l0 e cols RR (so,al,as_,cl,(k:Int))=some (.inr (.inr (so,al,as_,cl))):=by
 subst hk
 unfold g_ref_kindOf_l0
 dsimp only
 rw [if_neg natNlt]
end
def okK (f:Nat) (cols:List GColumn) (e:GExpr):Prop:=∃ s er,g_kinds_of f e cols=some (s,er)∧(er=0→0≤s.kind_∧s.kind_≤4)∧g_ref_kindOf f e cols=some (if er=0 then (s.kind_,s.null_,0) else (0,false,er))
def rep2:Vector Gkinds_sort 2:=Vector.replicate 2 Gkinds_sort.zero
theorem one_part {f:Nat} {cols:List GColumn} {e:GExpr} (h1:e.Op≠1) (h2:e.Op≠2) (hlen:e.Args.length=1) (A G:Int) (hA:g_ref_asksFor e.Op=some (A,G)) (hc:okK f cols (lrd e.Args 0))
  (hj:∀ (l:Vector Gkinds_sort 2),0≤(vrd l 0).kind_∧(vrd l 0).kind_≤4→∃ s er,g_kinds_joined e.Op 1 l=some (s,er)∧(er=0→0≤s.kind_∧s.kind_≤4) ∧
   (if (if e.Op=17∨(vrd l 0).kind_=0 then false else (false || decide ((vrd l 0).kind_≠if A=0 then (vrd l 0).kind_ else A)))=true then some ((0:Int),false,(2:Int)) else (if e.Op=(17:Int) then some ((1:Int),false,(0:Int)) else (if e.Op=(20:Int) then some ((if e.Op=17∨(vrd l 0).kind_=0 then A else if A=0 then (vrd l 0).kind_ else A),(true && (vrd l 0).null_),(0:Int)) else some (G,(false || (vrd l 0).null_),(0:Int)))))=some (if er=0 then (s.kind_,s.null_,0) else (0,false,er))) :
  okK (f+1) cols e:=by
 obtain ⟨s,er,hp,hb,hr⟩:=hc
 unfold okK g_kinds_of g_kinds_of_b g_ref_kindOf g_ref_kindOf_b
 rw [if_neg h1,if_neg h2,if_neg h1,if_neg h2,hA,Option.bind_some]
 by_cases he:er=0
 ·subst he
  rw [if_pos rfl] at hr
  have p0:=pstep (e:=e) (cols:=cols) (RP:=g_kinds_of f) (k:=0) (by omega) (by decide) hp rep2
  rw [if_neg (fun q=>q rfl)] at p0
  have p1:=pdone (e:=e) (cols:=cols) (RP:=g_kinds_of f) (k:=1) hlen.symm (vwr rep2 0 s)
  have r0:=rstep (e:=e) (cols:=cols) (RR:=g_ref_kindOf f) (k:=0) (by omega) (by decide) hr false true false A
  have hpl:=(loopO_next p0).trans (loopO_done p1)
  have hrl:=(loopO_next r0).trans (loopO_done (rdone (e:=e) (cols:=cols) (RR:=g_ref_kindOf f) (k:=1) hlen.symm _ _ _ _))
  have hv:vrd (vwr rep2 0 s) 0=s:=vrd_vwr_eq (by decide)
  obtain ⟨s',er',h3,h4,h5⟩:=hj (vwr rep2 0 s) (by rw [hv]; exact hb rfl)
  rw [hv] at h5
  refine ⟨s',er',?_,h4,?_⟩
  ·rw [show loopO (g_kinds_of_l1 e cols (g_kinds_of f)) ((0:Int),(Vector.replicate 2 Gkinds_sort.zero))=_ from hpl,Option.bind_some]
   dsimp only
   rw [hlen,show ((1:Nat):Int)=1 from rfl,h3]
   rfl
  ·rw [show loopO (g_ref_kindOf_l0 e cols (g_ref_kindOf f)) (false,true,A,false,(0:Int))=_ from hrl,Option.bind_some]
   exact h5
 ·rw [if_neg he] at hr
  have p0:=pstep (e:=e) (cols:=cols) (RP:=g_kinds_of f) (k:=0) (by omega) (by decide) hp rep2
  rw [if_pos he] at p0
  have r0:=rfail (e:=e) (cols:=cols) (RR:=g_ref_kindOf f) (k:=0) (by omega) he hr false true false A
  refine ⟨Gkinds_sort.zero,er,?_,fun h=>absurd h he,?_⟩
  ·rw [show loopO (g_kinds_of_l1 e cols (g_kinds_of f)) ((0:Int),(Vector.replicate 2 Gkinds_sort.zero))=_ from loopO_done p0]
   rfl
  ·rw [show loopO (g_ref_kindOf_l0 e cols (g_ref_kindOf f)) (false,true,A,false,(0:Int))=_ from loopO_done r0,if_neg he]
   rfl
def as1 (A k:Int):Int:=if k=0 then A else if A=0 then k else A
def cl1 (c:Bool) (A k:Int):Bool:=if k=0 then c else (c || decide (k≠if A=0 then k else A))
theorem two_parts {f:Nat} {cols:List GColumn} {e:GExpr} (h1:e.Op≠1) (h2:e.Op≠2) (h17:e.Op≠17) (hlen:e.Args.length=2) (A G:Int) (hA:g_ref_asksFor e.Op=some (A,G)) (hc:okK f cols (lrd e.Args 0)) (hd:okK f cols (lrd e.Args 1))
  (hj:∀ (l:Vector Gkinds_sort 2),0≤(vrd l 0).kind_∧(vrd l 0).kind_≤4→0≤(vrd l 1).kind_∧(vrd l 1).kind_≤4→∃ s er,g_kinds_joined e.Op 2 l=some (s,er)∧(er=0→0≤s.kind_∧s.kind_≤4) ∧
   (if cl1 (cl1 false A (vrd l 0).kind_) (as1 A (vrd l 0).kind_) (vrd l 1).kind_=true then some ((0:Int),false,(2:Int)) else (if e.Op=(20:Int) then some (as1 (as1 A (vrd l 0).kind_) (vrd l 1).kind_,((vrd l 0).null_ && (vrd l 1).null_),(0:Int)) else some (G,((vrd l 0).null_ || (vrd l 1).null_),(0:Int))))=some (if er=0 then (s.kind_,s.null_,0) else (0,false,er))) :
  okK (f+1) cols e:=by
 obtain ⟨s,er,hp,hb,hr⟩:=hc
 obtain ⟨t,eq,hp2,hb2,hr2⟩:=hd
 have hor:∀ k:Int,(e.Op=17∨k=0)=(k=0):=fun k=>propext ⟨fun h=>h.resolve_left h17,.inr⟩
 unfold okK g_kinds_of g_kinds_of_b g_ref_kindOf g_ref_kindOf_b
 rw [if_neg h1,if_neg h2,if_neg h1,if_neg h2,hA,Option.bind_some]
 by_cases he:er=0
 ·subst he
  rw [if_pos rfl] at hr
  have p0:=pstep (e:=e) (cols:=cols) (RP:=g_kinds_of f) (k:=0) (by omega) (by decide) hp rep2
  rw [if_neg (fun q=>q rfl)] at p0
  have r0:=rstep (e:=e) (cols:=cols) (RR:=g_ref_kindOf f) (k:=0) (by omega) (by decide) hr false true false A
  have p1:=pstep (e:=e) (cols:=cols) (RP:=g_kinds_of f) (k:=1) (by omega) (by decide) hp2 (vwr rep2 0 s)
  by_cases hq:eq=0
  ·subst hq
   rw [if_neg (fun q=>q rfl)] at p1
   rw [if_pos rfl] at hr2
   have p2:=pdone (e:=e) (cols:=cols) (RP:=g_kinds_of f) (k:=2) hlen.symm (vwr (vwr rep2 0 s) 1 t)
   have hpl:=(loopO_next p0).trans ((loopO_next p1).trans (loopO_done p2))
   have hrl:=(loopO_next r0).trans ((loopO_next (rstep (e:=e) (cols:=cols) (RR:=g_ref_kindOf f) (k:=1) (by omega) (by decide) hr2 _ _ _ _)).trans (loopO_done (rdone (e:=e) (cols:=cols) (RR:=g_ref_kindOf f) (k:=2) hlen.symm _ _ _ _)))
   simp only [hor] at hrl
   have hv0:vrd (vwr (vwr rep2 0 s) 1 t) 0=s:=by rw [vrd_vwr_ne (by decide) (by decide),vrd_vwr_eq (by decide)]
   have hv1:vrd (vwr (vwr rep2 0 s) 1 t) 1=t:=vrd_vwr_eq (by decide)
   obtain ⟨s',er',h3,h4,h5⟩:=hj (vwr (vwr rep2 0 s) 1 t) (by rw [hv0]; exact hb rfl) (by rw [hv1]; exact hb2 rfl)
   rw [hv0,hv1] at h5
   refine ⟨s',er',?_,h4,?_⟩
   ·rw [show loopO (g_kinds_of_l1 e cols (g_kinds_of f)) ((0:Int),(Vector.replicate 2 Gkinds_sort.zero))=_ from hpl,Option.bind_some]
    dsimp only
    rw [hlen,show ((2:Nat):Int)=2 from rfl,h3]
    rfl
   ·rw [show loopO (g_ref_kindOf_l0 e cols (g_ref_kindOf f)) (false,true,A,false,(0:Int))=_ from hrl,Option.bind_some]
    dsimp only
    rw [if_neg h17,Bool.false_or,Bool.true_and]
    exact h5
  ·rw [if_pos hq] at p1
   rw [if_neg hq] at hr2
   refine ⟨Gkinds_sort.zero,eq,?_,fun h=>absurd h hq,?_⟩
   ·rw [show loopO (g_kinds_of_l1 e cols (g_kinds_of f)) ((0:Int),(Vector.replicate 2 Gkinds_sort.zero))=_ from (loopO_next p0).trans (loopO_done p1)]
    rfl
   ·rw [show loopO (g_ref_kindOf_l0 e cols (g_ref_kindOf f)) (false,true,A,false,(0:Int))=_ from (loopO_next r0).trans (loopO_done (rfail (e:=e) (cols:=cols) (RR:=g_ref_kindOf f) (k:=1) (by omega) hq hr2 _ _ _ _)),if_neg hq]
    rfl
 ·rw [if_neg he] at hr
  have p0:=pstep (e:=e) (cols:=cols) (RP:=g_kinds_of f) (k:=0) (by omega) (by decide) hp rep2
  rw [if_pos he] at p0
  have r0:=rfail (e:=e) (cols:=cols) (RR:=g_ref_kindOf f) (k:=0) (by omega) he hr false true false A
  refine ⟨Gkinds_sort.zero,er,?_,fun h=>absurd h he,?_⟩
  ·rw [show loopO (g_kinds_of_l1 e cols (g_kinds_of f)) ((0:Int),(Vector.replicate 2 Gkinds_sort.zero))=_ from loopO_done p0]
   rfl
  ·rw [show loopO (g_ref_kindOf_l0 e cols (g_ref_kindOf f)) (false,true,A,false,(0:Int))=_ from loopO_done r0,if_neg he]
   rfl
theorem two_asks {f:Nat} {cols:List GColumn} {e:GExpr} (h1:e.Op≠1) (h2:e.Op≠2) (h17:e.Op≠17) (h20:e.Op≠20) (hlen:e.Args.length=2) (A G:Int) (hA0:A≠0) (hG:0≤G∧G≤4) (hA:g_ref_asksFor e.Op=some (A,G)) (hc:okK f cols (lrd e.Args 0)) (hd:okK f cols (lrd e.Args 1))
  (hj:∀ l:Vector Gkinds_sort 2,g_kinds_joined e.Op 2 l=(g_kinds_joined_1_i0 A G l (2:Int)).bind fun r'2=>some (r'2.1,r'2.2)):okK (f+1) cols e:=by
 refine two_parts h1 h2 h17 hlen A G hA hc hd fun l _ _=>?_
 rw [hj,asks_two]
 have ha:∀ k:Int,as1 A k=A:=fun k=>by unfold as1; rw [if_neg hA0]; split<;>rfl
 have hcl:∀ (c:Bool) (s:Gkinds_sort),cl1 c A s.kind_=(c || !(fitB s A)):=by
  intro c s
  unfold cl1 fitB
  rw [if_neg hA0]
  by_cases h:s.kind_=0
  ·rw [if_pos h,decide_eq_true (.inr h)]; simp
  ·rw [if_neg h]
   by_cases h3:s.kind_=A
   ·rw [decide_eq_false (fun q=>q h3),decide_eq_true (.inl h3)]; simp
   ·rw [decide_eq_true h3,decide_eq_false (fun q=>q.elim h3 h)]; simp
 rw [ha,hcl,hcl,if_neg h20]
 by_cases hf0:fitB (vrd l 0) A=true
 ·by_cases hf1:fitB (vrd l 1) A=true
  ·rw [if_pos ⟨hf0,hf1⟩,hf0,hf1]
   exact ⟨_,0,rfl,fun _=>hG,rfl⟩
  ·rw [if_neg (fun q=>hf1 q.2),hf0,Bool.eq_false_iff.2 hf1]
   exact ⟨_,2,rfl,fun h=>absurd h (by decide),rfl⟩
 ·rw [if_neg (fun q=>hf0 q.1),Bool.eq_false_iff.2 hf0]
  exact ⟨_,2,rfl,fun h=>absurd h (by decide),by simp⟩
theorem one_asks {f:Nat} {cols:List GColumn} {e:GExpr} (h1:e.Op≠1) (h2:e.Op≠2) (h17:e.Op≠17) (h20:e.Op≠20) (hlen:e.Args.length=1) (A G:Int) (hA0:A≠0) (hG:0≤G∧G≤4) (hA:g_ref_asksFor e.Op=some (A,G)) (hc:okK f cols (lrd e.Args 0))
  (hj:∀ l:Vector Gkinds_sort 2,g_kinds_joined e.Op 1 l=(g_kinds_joined_1_i0 A G l (1:Int)).bind fun r'2=>some (r'2.1,r'2.2)):okK (f+1) cols e:=by
 refine one_part h1 h2 hlen A G hA hc fun l _=>?_
 rw [hj,asks_one,if_neg h17,if_neg h20]
 by_cases hf0:fitB (vrd l 0) A=true
 ·rw [if_pos hf0,if_neg (by
   unfold fitB at hf0
   have:=of_decide_eq_true hf0
   split
   ·decide
   ·rename_i h3
    try rw [if_neg hA0]
    rw [decide_eq_false (fun q=>q (this.resolve_right (fun h=>h3 (.inr h))))]
    decide)]
  exact ⟨_,0,rfl,fun _=>hG,rfl⟩
 ·rw [if_neg hf0,if_pos (by
   unfold fitB at hf0
   have h3:¬ ((vrd l 0).kind_=A∨(vrd l 0).kind_=0):=fun h=>hf0 (decide_eq_true h)
   rw [if_neg (fun h=>h.elim h17 (fun h=>h3 (.inr h))),if_neg hA0,decide_eq_true (show (vrd l 0).kind_≠A from fun h=>h3 (.inl h))]
   rfl)]
  exact ⟨_,2,rfl,fun h=>absurd h (by decide),rfl⟩
theorem cl_int (x y:Int):cl1 (cl1 false 0 x) (as1 0 x) y = !(decide (x=(if x=0 then y else x)∨x=0) && decide (y=(if x=0 then y else x)∨y=0)):=by
 unfold cl1 as1
 by_cases h0:x=0
 ·by_cases h1:y=0
  ·simp [h0,h1]
  ·simp [h0,h1]
 ·by_cases h1:y=0
  ·simp [h0,h1]
  ·by_cases h2:y=x
   ·simp [h0,h2]
   ·simp [h0,h1,h2]
theorem cmp_parts {f:Nat} {cols:List GColumn} {e:GExpr} (hop:e.Op=9∨e.Op=10∨e.Op=11∨e.Op=12∨e.Op=13∨e.Op=14∨e.Op=20) (hlen:e.Args.length=2) (G:Int) (hG:e.Op≠20→G=1) (hA:g_ref_asksFor e.Op=some (0,G)) (hc:okK f cols (lrd e.Args 0)) (hd:okK f cols (lrd e.Args 1)):okK (f+1) cols e:=by
 refine two_parts (by omega) (by omega) (by omega) hlen 0 G hA hc hd fun l hb0 hb1=>?_
 rw [joined_cmp hop]
 have ha:as1 (as1 0 (vrd l 0).kind_) (vrd l 1).kind_=bothK (vrd l 0) (vrd l 1):=by
  unfold as1 bothK
  by_cases h0:(vrd l 0).kind_=0
  ·rw [if_pos h0,if_pos h0]
   by_cases h1:(vrd l 1).kind_=0
   ·rw [if_pos h1,h1]
   ·rw [if_neg h1,if_pos rfl]
  ·rw [if_neg h0,if_neg h0,if_pos rfl]
   by_cases h1:(vrd l 1).kind_=0
   ·rw [if_pos h1]
   ·rw [if_neg h1,if_neg h0]
 have hcl:cl1 (cl1 false 0 (vrd l 0).kind_) (as1 0 (vrd l 0).kind_) (vrd l 1).kind_ = !(fitB (vrd l 0) (bothK (vrd l 0) (vrd l 1)) && fitB (vrd l 1) (bothK (vrd l 0) (vrd l 1))):=by
  exact cl_int _ _
 rw [ha,hcl]
 have hbK:0≤bothK (vrd l 0) (vrd l 1)∧bothK (vrd l 0) (vrd l 1)≤4:=by
  unfold bothK
  split
  ·exact hb1
  ·exact hb0
 by_cases hf0:fitB (vrd l 0) (bothK (vrd l 0) (vrd l 1))=true
 ·by_cases hf1:fitB (vrd l 1) (bothK (vrd l 0) (vrd l 1))=true
  ·rw [if_pos ⟨hf0,hf1⟩,hf0,hf1]
   by_cases h20:e.Op=20
   ·rw [if_pos h20,if_pos h20]
    exact ⟨_,0,rfl,fun _=>hbK,rfl⟩
   ·rw [if_neg h20,if_neg h20,hG h20]
    exact ⟨_,0,rfl,fun _=>show (0:Int)≤1∧(1:Int)≤4 by decide,rfl⟩
  ·rw [if_neg (fun q=>hf1 q.2),hf0,Bool.eq_false_iff.2 hf1]
   exact ⟨_,2,rfl,fun h=>absurd h (by decide),rfl⟩
 ·rw [if_neg (fun q=>hf0 q.1),Bool.eq_false_iff.2 hf0]
  exact ⟨_,2,rfl,fun h=>absurd h (by decide),rfl⟩
theorem kind_eq {cols:List GColumn} (hl:cols.length < 9223372036854775807) (hf:colsFine cols):∀ (m f:Nat) (e:GExpr),m < f→goodE m e→okK f cols e
 | _,0,_,h,_=>by omega
 | 0,_,_,_,h=>h.elim
 | m+1,f+1,e,hmf,hg=>by
  obtain ⟨hop,hw,hlit,hargs⟩:=hg
  by_cases h1:e.Op=1
  ·unfold okK g_kinds_of g_kinds_of_b g_ref_kindOf g_ref_kindOf_b
   rw [if_pos h1,if_pos h1,letO_eq]
   exact ⟨_,0,rfl,fun _=>hlit h1,rfl⟩
  ·by_cases h2:e.Op=2
   ·unfold okK g_kinds_of g_kinds_of_b g_ref_kindOf g_ref_kindOf_b
    rw [if_neg h1,if_pos h2,if_neg h1,if_pos h2]
    obtain ⟨r,h3,h4⟩:=of_col e cols hl
    rw [h3,Option.bind_some]
    rcases colAt cols e.Name hl with ⟨i,hi,hni,hc⟩ | ⟨hno,hc⟩
    ·rcases h4 with ⟨j,hj,hnj,rfl⟩ | ⟨hno,_⟩
     ·have hij:j=i:=hf.once j i hj hi (hnj.trans hni.symm)
      subst hij
      rw [hc,Option.bind_some,if_neg (by omega),if_pos (natIn hi),if_pos (natIn hi),Int.toNat_natCast]
      have:=hf.kinds j hi
      exact ⟨_,0,rfl,fun _=>⟨by dsimp only; omega,this.2⟩,rfl⟩
     ·exact absurd hni (hno i hi)
    ·rcases h4 with ⟨j,hj,hnj,_⟩ | ⟨_,rfl⟩
     ·exact absurd hnj (hno j hj)
     ·rw [hc,Option.bind_some,if_pos (by decide)]
      exact ⟨_,5,rfl,fun h=>absurd h (by decide),rfl⟩
   ·have hk:∀ k,k < e.Args.length→okK f cols (lrd e.Args k):=fun k hk=>kind_eq hl hf m f _ (by omega) (hargs k hk)
    have hops:e.Op=3∨e.Op=4∨e.Op=5∨e.Op=6∨e.Op=7∨e.Op=8∨e.Op=9∨e.Op=10∨e.Op=11∨e.Op=12∨e.Op=13∨e.Op=14∨e.Op=15∨e.Op=16∨e.Op=17∨e.Op=18∨e.Op=19∨e.Op=20:=by omega
    have len1:∀ {op:Int},e.Op=op→g_expr_wants op=some 1→e.Args.length=1:=by
     intro op h3 h4
     rw [h3,h4] at hw
     have:=Option.some.inj hw
     omega
    have len2:∀ {op:Int},e.Op=op→g_expr_wants op=some 2→e.Args.length=2:=by
     intro op h3 h4
     rw [h3,h4] at hw
     have:=Option.some.inj hw
     omega
    have A1:∀ (op A G:Int),e.Op=op→op≠17→op≠20→g_expr_wants op=some 1→A≠0→0≤G∧G≤4→g_ref_asksFor op=some (A,G)→(∀ l:Vector Gkinds_sort 2,g_kinds_joined op 1 l=(g_kinds_joined_1_i0 A G l (1:Int)).bind fun r'2=>some (r'2.1,r'2.2))→okK (f+1) cols e:=by
     intro op A G h3 h17 h20 h4 h5 h6 h7 h8
     have hlen:=len1 h3 h4
     subst h3
     exact one_asks h1 h2 h17 h20 hlen A G h5 h6 h7 (hk 0 (by omega)) h8
    have A2:∀ (op A G:Int),e.Op=op→op≠17→op≠20→g_expr_wants op=some 2→A≠0→0≤G∧G≤4→g_ref_asksFor op=some (A,G)→(∀ l:Vector Gkinds_sort 2,g_kinds_joined op 2 l=(g_kinds_joined_1_i0 A G l (2:Int)).bind fun r'2=>some (r'2.1,r'2.2))→okK (f+1) cols e:=by
     intro op A G h3 h17 h20 h4 h5 h6 h7 h8
     have hlen:=len2 h3 h4
     subst h3
     exact two_asks h1 h2 h17 h20 hlen A G h5 h6 h7 (hk 0 (by omega)) (hk 1 (by omega)) h8
    have A3:∀ (op G:Int),e.Op=op→(op=9∨op=10∨op=11∨op=12∨op=13∨op=14∨op=20)→g_expr_wants op=some 2→(op≠20→G=1)→g_ref_asksFor op=some (0,G)→okK (f+1) cols e:=by
     intro op G h3 h4 h5 h6 h7
     have hlen:=len2 h3 h5
     subst h3
     exact cmp_parts h4 hlen G h6 h7 (hk 0 (by omega)) (hk 1 (by omega))
    rcases hops with h | h | h | h | h | h | h | h | h | h | h | h | h | h | h | h | h | h
    ·exact A1 3 2 2 h (by decide) (by decide) rfl (by decide) (by decide) rfl (fun _=>rfl)
    ·exact A1 4 1 1 h (by decide) (by decide) rfl (by decide) (by decide) rfl (fun _=>rfl)
    ·exact A2 5 2 2 h (by decide) (by decide) rfl (by decide) (by decide) rfl (fun _=>rfl)
    ·exact A2 6 2 2 h (by decide) (by decide) rfl (by decide) (by decide) rfl (fun _=>rfl)
    ·exact A2 7 2 2 h (by decide) (by decide) rfl (by decide) (by decide) rfl (fun _=>rfl)
    ·exact A2 8 2 2 h (by decide) (by decide) rfl (by decide) (by decide) rfl (fun _=>rfl)
    ·exact A3 9 1 h (by decide) rfl (fun _=>rfl) rfl
    ·exact A3 10 1 h (by decide) rfl (fun _=>rfl) rfl
    ·exact A3 11 1 h (by decide) rfl (fun _=>rfl) rfl
    ·exact A3 12 1 h (by decide) rfl (fun _=>rfl) rfl
    ·exact A3 13 1 h (by decide) rfl (fun _=>rfl) rfl
    ·exact A3 14 1 h (by decide) rfl (fun _=>rfl) rfl
    ·exact A2 15 1 1 h (by decide) (by decide) rfl (by decide) (by decide) rfl (fun _=>rfl)
    ·exact A2 16 1 1 h (by decide) (by decide) rfl (by decide) (by decide) rfl (fun _=>rfl)
    ·have hlen:=len1 h rfl
     refine one_part h1 h2 hlen 0 1 (by rw [h]; rfl) (hk 0 (by omega)) fun l _=>?_
     rw [h]
     refine ⟨⟨1,false⟩,0,rfl,fun _=>by decide,?_⟩
     rw [if_neg (by simp),if_pos rfl]
     rfl
    ·exact A1 18 4 2 h (by decide) (by decide) rfl (by decide) (by decide) rfl (fun _=>rfl)
    ·exact A2 19 4 4 h (by decide) (by decide) rfl (by decide) (by decide) rfl (fun _=>rfl)
    ·exact A3 20 0 h (by decide) rfl (fun q=>absurd rfl q) rfl
theorem of_eq {e:GExpr} {cols:List GColumn} (q:GExpr.ok e) (hl:cols.length < 9223372036854775807) (hc:∀ c∈cols,c.Name.length < 9223372036854775807):∃ r,g_kinds_Of e cols=some r∧g_ref_KindOf e cols=some r∧(r.2.2=0→0≤r.1∧r.1≤4):=by
 unfold g_kinds_Of g_ref_KindOf
 obtain ⟨x,h1,h2⟩:=expr_eq q
 rw [h1,h2,Option.bind_some,Option.bind_some]
 by_cases hx:x≠0
 ·rw [if_pos hx,if_pos hx]; exact ⟨_,rfl,rfl,fun h=>absurd h hx⟩
 ·rw [if_neg hx,if_neg hx]
  obtain ⟨y,h3,h4⟩:=cols_eq cols hl hc
  rw [h3,h4,Option.bind_some,Option.bind_some]
  by_cases hy:y≠0
  ·rw [if_pos hy,if_pos hy]; exact ⟨_,rfl,rfl,fun h=>absurd h hy⟩
  ·rw [if_neg hy,if_neg hy]
   have hx0:x=0:=by omega
   have hy0:y=0:=by omega
   rw [hx0] at h1
   rw [hy0] at h3
   obtain ⟨s,er,h5,h6,h7⟩:=kind_eq hl (cols_fine hl hc h3) 7 100000 e (by decide) (check_good q h1)
   rw [h5,h7,Option.bind_some,Option.bind_some]
   by_cases he:er=0
   ·subst he
    exact ⟨_,rfl,rfl,fun _=>h6 rfl⟩
   ·simp only [if_neg he,if_pos (show er≠0 from he)]
    exact ⟨_,rfl,rfl,fun h=>absurd h he⟩
theorem cond_eq {e:GExpr} {cols:List GColumn} (q:GExpr.ok e) (hl:cols.length < 9223372036854775807) (hc:∀ c∈cols,c.Name.length < 9223372036854775807):∃ r,g_table_Condition e cols=some r∧g_ref_ConditionFault e cols=some r:=by
 unfold g_table_Condition g_ref_ConditionFault g_table_none g_ref_noExpr
 rw [Option.bind_some,Option.bind_some]
 have hsame:decide ((((e.Op=(0:Int))∧(e.Value=GValue.zero))∧(e.Name=[]))∧((e.Args.length:Int)=(0:Int)))=decide ((((e.Op=(0:Int))∧(e.Name=[]))∧(e.Value=GValue.zero))∧((e.Args.length:Int)=(0:Int))):=by
  refine decide_eq_decide.2 ⟨fun h=>⟨⟨⟨h.1.1.1,h.1.2⟩,h.1.1.2⟩,h.2⟩,fun h=>⟨⟨⟨h.1.1.1,h.1.2⟩,h.1.1.2⟩,h.2⟩⟩
 rw [hsame]
 by_cases hn:decide ((((e.Op=(0:Int))∧(e.Name=[]))∧(e.Value=GValue.zero))∧((e.Args.length:Int)=(0:Int)))=true
 ·rw [if_pos hn,if_pos hn]
  obtain ⟨y,h3,h4⟩:=cols_eq cols hl hc
  rw [h3,h4]
  exact ⟨_,rfl,rfl⟩
 ·rw [if_neg hn,if_neg hn]
  obtain ⟨r,h1,h2,h3⟩:=of_eq q hl hc
  rw [h1,h2,Option.bind_some,Option.bind_some]
  by_cases he:r.2.2=0
  ·have hb:=h3 he
   have hne:¬ r.2.2≠0:=fun q=>q he
   by_cases hk:r.1 > 1
   ·rw [if_pos (show ((r.2.2=0)∧(r.1≠1))∧(r.1≠0) from ⟨⟨he,by omega⟩,by omega⟩),if_neg hne,if_pos hk]; exact ⟨_,rfl,rfl⟩
   ·rw [if_neg (show ¬ (((r.2.2=0)∧(r.1≠1))∧(r.1≠0)) by omega),if_neg hne,if_neg hk,he]; exact ⟨_,rfl,rfl⟩
  ·rw [if_neg (show ¬ (((r.2.2=0)∧(r.1≠1))∧(r.1≠0)) from fun q=>he q.1.1),if_pos he]; exact ⟨_,rfl,rfl⟩
end Go.Proofs.YthnkbagmaljjjaaGreatDoor.VM

/- Words and rules that the proof uses. -/
namespace Go.Proofs.YthnkbagmaljjjaaGreatDoor.VM
open Go Go.RowKit
theorem rowStep (row:List GValue) (cols:List GColumn) (hlen:row.length=cols.length) (hr:∀ v∈row,okI v.Int_):g_kinds_fits_l0 row cols=g_ref_RowFault_l0 row cols:=by
 funext t
 unfold g_kinds_fits_l0 g_ref_RowFault_l0
 dsimp only
 by_cases h:t < (row.length:Int)
 ·rw [if_pos h,if_pos h]
  by_cases h0:0≤t∧t < (row.length:Int)
  ·obtain ⟨e,h1,h2,_⟩:=check_eq (lrd row t.toNat) (hr _ (lrd_mem (by omega)))
   have hc:0≤t∧t < (cols.length:Int):=by omega
   rw [if_pos h0,if_pos h0,h1,h2,Option.bind_some,Option.bind_some]
   by_cases he:e≠0
   ·rw [if_pos he,if_pos he]; rfl
   ·rw [if_neg he,if_neg he]
    by_cases hk:(lrd row t.toNat).Kind=0
    ·simp only [if_pos hc]
     rw [if_pos hk,if_pos hk,Option.bind_some]
     by_cases hn:(!((lrd cols t.toNat).Null))=true
     ·rw [if_pos hn,if_pos hn]; rfl
     ·rw [if_neg hn,if_neg hn,if_neg (fun q=>q hk),Option.bind_some,if_neg (by decide)]; rfl
    ·rw [if_neg hk,if_neg hk,if_pos hc,Option.bind_some,if_neg (show ¬ (false=true) by decide),if_pos hk,if_pos hc,Option.bind_some]
     by_cases hn:(lrd row t.toNat).Kind≠(lrd cols t.toNat).Kind
     ·rw [if_pos (decide_eq_true hn),if_pos hn]; rfl
     ·rw [if_neg (by rw [decide_eq_false hn]; decide),if_neg hn]; rfl
  ·rw [if_neg h0,if_neg h0]; rfl
 ·rw [if_neg h,if_neg h]
theorem row_eq (row:List GValue) (cols:List GColumn) (hl:cols.length < 9223372036854775807) (hc:∀ c∈cols,c.Name.length < 9223372036854775807) (hr:∀ v∈row,okI v.Int_):∃ e,g_kinds_Row row cols=some e∧g_ref_RowFault row cols=some e:=by
 unfold g_kinds_Row g_kinds_fits g_ref_RowFault
 obtain ⟨e,h1,h2⟩:=cols_eq cols hl hc
 rw [h1,h2,Option.bind_some,Option.bind_some]
 by_cases he:e≠0
 ·rw [if_pos he,if_pos he]; exact ⟨_,rfl,rfl⟩
 ·rw [if_neg he,if_neg he]
  by_cases hlen:(row.length:Int)≠(cols.length:Int)
  ·rw [if_pos hlen,if_pos hlen]; exact ⟨_,rfl,rfl⟩
  ·have hlen2:row.length=cols.length:=by omega
   rw [if_neg hlen,if_neg hlen,rowStep row cols hlen2 hr]
   have:∃ r,loopO (g_ref_RowFault_l0 row cols) (0:Int)=some r∧True:=by
    refine loopO_times (step:=g_ref_RowFault_l0 row cols) row.length (fun k (_:Unit)=>(k:Int)) (fun _ _=>True) (fun _=>True) (fun k _ hk _=>?_) (fun _ _=>?_) (s:=()) trivial
    ·unfold g_ref_RowFault_l0
     dsimp only
     obtain ⟨e,_,h2,_⟩:=check_eq (lrd row k) (hr _ (lrd_mem hk))
     rw [if_pos (natLt hk),if_pos (natIn hk),Int.toNat_natCast,h2,Option.bind_some]
     have hk2:(0:Int)≤(k:Int)∧(k:Int) < (cols.length:Int):=by omega
     rw [if_pos hk2,if_pos hk2]
     split
     ·exact .inr ⟨_,rfl,trivial⟩
     ·split
      ·split
       ·exact .inr ⟨_,rfl,trivial⟩
       ·exact .inl ⟨(),by rw [w64_succ (by omega)]; rfl,trivial⟩
      ·split
       ·exact .inr ⟨_,rfl,trivial⟩
       ·exact .inl ⟨(),by rw [w64_succ (by omega)]; rfl,trivial⟩
    ·unfold g_ref_RowFault_l0
     dsimp only
     rw [if_neg natNlt]
     exact ⟨_,rfl,trivial⟩
   obtain ⟨r,hr2,_⟩:=this
   rw [hr2,Option.bind_some]
   cases r with
   | inl y=>exact ⟨y,rfl,rfl⟩
   | inr y=>exact ⟨0,rfl,rfl⟩
end Go.Proofs.YthnkbagmaljjjaaGreatDoor.VM

/- Words and rules that the proof uses. -/
namespace Go.Proofs.YthnkbagmaljjjaaGreatDoor.VM
open Go Go.RowKit
def goodV:Nat→GExpr→Prop
 | 0,_=>False
 | m+1,e=>(e.Op=1→CanV e.Value)∧∀ k,k < e.Args.length→goodV m (lrd e.Args k)
theorem node_goodV {e:GExpr} (q:GExpr.ok e) (h:g_expr_node e=some 0):e.Op=1→CanV e.Value:=by
 intro h1
 obtain ⟨_,hvi,hnm,_,_⟩:=exOk q
 unfold g_expr_node at h
 by_cases hop:(e.Op < (1:Int))∨(e.Op > (20:Int))
 ·rw [if_pos hop] at h; cases h
 ·have hop2:1≤e.Op∧e.Op≤20:=by omega
  rw [if_neg hop,wants_eq hop2,Option.bind_some] at h
  generalize (lrd _ e.Op.toNat:Int)=W at h
  by_cases hlen:(e.Args.length:Int)≠W
  ·rw [if_pos hlen] at h; cases h
  ·rw [if_neg hlen] at h
   split at h
   ·cases h
   ·rw [if_neg (show ¬ e.Op=2 by omega),Option.bind_some,if_neg (show ¬ (false=true) by decide)] at h
    try rw [if_pos h1] at h
    obtain ⟨ve,hv1,hv2,_⟩:=check_eq e.Value hvi
    rw [hv1,Option.bind_some] at h
    by_cases hve:ve≠0
    ·rw [if_pos hve,Option.bind_some,if_pos rfl] at h; cases h
    ·have:ve=0:=by omega
     subst this
     exact can_of hvi hv2
theorem nodes_goodV:∀ (m f:Nat) (e:GExpr),m < f→GExpr.ok e→lev m [e]=[]→g_expr_nodes f e=some 0→goodV m e
 | _,0,_,h,_,_,_=>by omega
 | 0,_,_,_,_,h,_=>by cases h
 | m+1,f+1,e,hf,q,hv,h=>by
  obtain ⟨_,_,_,hl,hargs⟩:=exOk q
  obtain ⟨own,h1,_⟩:=node_eq q
  unfold g_expr_nodes g_expr_nodes_b at h
  rw [h1,Option.bind_some] at h
  by_cases ho:own≠0
  ·rw [if_pos ho] at h
   exact absurd (Option.some.inj h) ho
  ·have ho0:own=0:=by omega
   rw [if_neg ho] at h
   rw [ho0] at h1
   rw [lev,one_args] at hv
   have g1:=node_goodV q h1
   obtain ⟨o,h2,h3⟩:=loop_passes (step:=g_expr_nodes_l0 e (g_expr_nodes f)) e.Args.length (by omega) (fun k hk=>by
    unfold g_expr_nodes_l0
    dsimp only
    obtain ⟨r,h5,_⟩:=nodes_eq m f (lrd e.Args k) (by omega) (hargs _ (lrd_mem hk)) (lev_part hk hv)
    rw [if_pos (natLt hk),if_pos (natIn hk),Int.toNat_natCast,h5,Option.bind_some]
    by_cases hr:r≠0
    ·rw [if_pos hr]; exact .inr ⟨r,hr,rfl⟩
    ·rw [if_neg hr]; exact .inl rfl) (by
    unfold g_expr_nodes_l0
    dsimp only
    rw [if_neg natNlt])
   rw [h2,Option.bind_some] at h
   cases o with
   | inl y=>exact absurd (Option.some.inj h) h3
   | inr u =>
    refine ⟨g1,fun k hk=>?_⟩
    have h4:=h3 k hk
    obtain ⟨r,h5,_⟩:=nodes_eq m f (lrd e.Args k) (by omega) (hargs _ (lrd_mem hk)) (lev_part hk hv)
    unfold g_expr_nodes_l0 at h4
    dsimp only at h4
    rw [if_pos (natLt hk),if_pos (natIn hk),Int.toNat_natCast,h5,Option.bind_some] at h4
    by_cases hr:r≠0
    ·rw [if_pos hr] at h4; cases h4
    ·have hr0:r=0:=by omega
     rw [hr0] at h5
     exact nodes_goodV m f (lrd e.Args k) (by omega) (hargs _ (lrd_mem hk)) (lev_part hk hv) h5
theorem check_goodV {e:GExpr} (q:GExpr.ok e) (h:g_expr_Check e=some 0):goodV 7 e:=by
 unfold g_expr_Check at h
 rw [size_eq 7 100000 e 1 (by decide) (by decide) (by decide) q,Option.bind_some] at h
 by_cases hf:fine 7 e
 ·rw [if_pos hf] at h
  dsimp only at h
  rw [if_neg (by decide)] at h
  obtain ⟨r,h1,_⟩:=nodes_eq 7 100000 e (by decide) q (List.length_eq_zero_iff.1 hf.1)
  rw [h1,Option.bind_some] at h
  rw [Option.some.inj h] at h1
  exact nodes_goodV 7 100000 e (by decide) q (List.length_eq_zero_iff.1 hf.1) h1
 ·rw [if_neg hf] at h
  cases h
theorem row_good {row:List GValue} {cols:List GColumn} (hl:row.length < 9223372036854775807) (hr:∀ v∈row,okI v.Int_) (h:g_kinds_Row row cols=some 0):g_kinds_Columns cols=some 0∧row.length=cols.length∧∀ k,k < row.length→CanV (lrd row k)∧((lrd row k).Kind=0∨(lrd row k).Kind=(lrd cols k).Kind):=by
 unfold g_kinds_Row g_kinds_fits at h
 generalize g_kinds_Columns cols=ce at *
 cases ce with
 | none=>cases h
 | some e =>
  rw [Option.bind_some] at h
  by_cases he:e≠0
  ·rw [if_pos he] at h
   exact absurd (Option.some.inj h) he
  rw [if_neg he] at h
  have he:e=0:=by omega
  by_cases hlen:(row.length:Int)≠(cols.length:Int)
  ·rw [if_pos hlen] at h; cases h
  rw [if_neg hlen] at h
  have hlen2:row.length=cols.length:=by omega
  obtain ⟨o,h1,h2⟩:=loop_passes (step:=g_kinds_fits_l0 row cols) row.length hl (fun k hk=>by
   unfold g_kinds_fits_l0
   dsimp only
   obtain ⟨e,h2,_,_⟩:=check_eq (lrd row k) (hr _ (lrd_mem hk))
   have hk2:(0:Int)≤(k:Int)∧(k:Int) < (cols.length:Int):=by omega
   rw [if_pos (natLt hk),if_pos (natIn hk),Int.toNat_natCast,h2,Option.bind_some]
   by_cases he:e≠0
   ·rw [if_pos he]; exact .inr ⟨e,he,rfl⟩
   ·rw [if_neg he,if_pos hk2,if_pos hk2]
    by_cases hk0:(lrd row k).Kind=0
    ·rw [if_pos hk0,Option.bind_some]
     by_cases hn:(!((lrd cols k).Null))=true
     ·rw [if_pos hn]; exact .inr ⟨12,by decide,rfl⟩
     ·rw [if_neg hn,if_neg (fun q=>q hk0),Option.bind_some,if_neg (by decide)]; exact .inl rfl
    ·rw [if_neg hk0,Option.bind_some,if_neg (by decide),if_pos hk0,Option.bind_some]
     by_cases hn:(lrd row k).Kind≠(lrd cols k).Kind
     ·rw [if_pos (decide_eq_true hn)]; exact .inr ⟨2,by decide,rfl⟩
     ·rw [if_neg (by rw [decide_eq_false hn]; decide)]; exact .inl rfl) (by
   unfold g_kinds_fits_l0
   dsimp only
   rw [if_neg natNlt])
  rw [h1,Option.bind_some] at h
  cases o with
  | inl y=>exact absurd (Option.some.inj h) h2
  | inr u =>
   refine ⟨by rw [he],hlen2,fun k hk=>?_⟩
   have h4:=h2 k hk
   obtain ⟨e,h5,h6,_⟩:=check_eq (lrd row k) (hr _ (lrd_mem hk))
   unfold g_kinds_fits_l0 at h4
   dsimp only at h4
   rw [if_pos (natLt hk),if_pos (natIn hk),Int.toNat_natCast,h5,Option.bind_some] at h4
   by_cases he:e≠0
   ·rw [if_pos he] at h4; cases h4
   ·have he0:e=0:=by omega
    rw [he0] at h6
    refine ⟨can_of (hr _ (lrd_mem hk)) h6,?_⟩
    by_cases hk0:(lrd row k).Kind=0
    ·exact .inl hk0
    ·have hk2:(0:Int)≤(k:Int)∧(k:Int) < (cols.length:Int):=by omega
     rw [if_neg he,if_neg hk0,Option.bind_some,if_neg (by decide),if_pos hk0,if_pos hk2,Option.bind_some] at h4
     by_cases hn:(lrd row k).Kind≠(lrd cols k).Kind
     ·rw [if_pos (decide_eq_true hn)] at h4; cases h4
     ·exact .inr (Classical.not_not.1 hn)
def gOf (op k:Int):Int:=if op=20 then k else if op=19 then 4 else if op=18∨op=3∨(5≤op∧op≤8) then 2 else 1
theorem did_one {op:Int} (h:op=3∨op=4∨op=17∨op=18) {v:GValue} (c:CanV v) (k:Int):∃ r,g_eval_one op v=some r∧g_ref_did op v GValue.zero=some r∧OkR (gOf op k) r:=by
 rcases h with rfl | rfl | rfl | rfl
 ·exact did_neg c
 ·exact did_not c
 ·exact did_isnull v
 ·exact did_length c
theorem did_two {op:Int} (h:5≤op∧op≤20∧op≠17∧op≠18) {v w:GValue} (cv:CanV v) (cw:CanV w):∃ r,g_eval_two op v w=some r∧g_ref_did op v w=some r∧OkR (gOf op w.Kind) r:=by
 unfold gOf
 by_cases h1:op≤8
 ·rw [if_neg (by omega),if_neg (by omega),if_pos (by omega)]
  exact arith_eq (by omega) cv cw
 by_cases h2:op≤14
 ·rw [if_neg (by omega),if_neg (by omega),if_neg (by omega)]
  exact did_cmp (by omega) cv cw
 by_cases h3:op≤16
 ·rw [if_neg (by omega),if_neg (by omega),if_neg (by omega)]
  exact did_logic (by omega) cv cw
 by_cases h4:op=19
 ·subst h4; exact did_join cv cw
 ·have:op=20:=by omega
  subst this
  exact did_coal cw
theorem is_bool {v:GValue} (c:CanV v) (b:Bool):v=trV (some b)↔v.Kind=1∧v.Int_=if b then 1 else 0:=by
 constructor
 ·rintro rfl
  exact ⟨rfl,rfl⟩
 ·rintro ⟨h1,h2⟩
  cases c with
  | null=>cases h1
  | bool b'=>cases b<;>cases b'<;>first | rfl | (cases h2; done)
  | int n hn=>exact absurd h1 (show ¬ (2:Int)=1 by decide)
  | real n hn=>exact absurd h1 (show ¬ (3:Int)=1 by decide)
  | text n hn hu=>exact absurd h1 (show ¬ (4:Int)=1 by decide)
theorem short_eq (op:Int) {v:GValue} (c:CanV v):((if op=(15:Int) then (g_eval_truth (0:Int)).bind fun r'3=>some (decide (v=r'3)) else some false)).bind (fun g'4=>(if g'4=true then some g'4 else ((if op=(16:Int) then (g_eval_truth (2:Int)).bind fun r'5=>some (decide (v=r'5)) else some false)).bind fun g'6=>some g'6))=some (decide ((v.Kind=(1:Int))∧(((op=(15:Int))∧(v.Int_=(0:Int)))∨((op=(16:Int))∧(v.Int_=(1:Int)))))):=by
 have e0:g_eval_truth (0:Int)=some (trV (some false)):=truth_tr (some false)
 have e2:g_eval_truth (2:Int)=some (trV (some true)):=truth_tr (some true)
 by_cases h1:op=15
 ·subst h1
  rw [if_pos rfl,e0,Option.bind_some,Option.bind_some,if_neg (show ¬ (15:Int)=16 by decide)]
  by_cases hv:v=trV (some false)
  ·rw [decide_eq_true hv,if_pos rfl]
   have:=(is_bool c false).1 hv
   rw [decide_eq_true (show v.Kind=1∧_ from ⟨this.1,.inl ⟨rfl,this.2⟩⟩)]
  ·rw [decide_eq_false hv,if_neg (by decide),Option.bind_some,decide_eq_false]
   rintro ⟨h2,h3 | h3⟩
   ·exact hv ((is_bool c false).2 ⟨h2,h3.2⟩)
   ·exact absurd h3.1 (by decide)
 ·rw [if_neg h1,Option.bind_some,if_neg (by decide)]
  by_cases h2:op=16
  ·subst h2
   rw [if_pos rfl,e2,Option.bind_some,Option.bind_some]
   congr 1
   apply decide_eq_decide.2
   rw [is_bool c true]
   exact ⟨fun h=>⟨h.1,.inr ⟨rfl,h.2⟩⟩,fun h=>⟨h.1,h.2.elim (fun q=>absurd q.1 (by decide)) (fun q=>q.2)⟩⟩
  ·rw [if_neg h2,Option.bind_some,decide_eq_false]
   rintro ⟨_,h3 | h3⟩
   ·exact h1 h3.1
   ·exact h2 h3.1
theorem j_one {op:Int} (h:op=3∨op=4∨op=17∨op=18) (l:Vector Gkinds_sort 2) {s:Gkinds_sort} (q:g_kinds_joined op 1 l=some (s,0)):s.kind_=gOf op 0:=by
 have go:∀ A G:Int,g_kinds_joined op 1 l=(g_kinds_joined_1_i0 A G l (1:Int)).bind (fun r'2=>some (r'2.1,r'2.2))→s.kind_=G:=by
  intro A G e
  rw [e,asks_one,Option.bind_some] at q
  split at q
  ·cases q; rfl
  ·cases q
 rcases h with rfl | rfl | rfl | rfl
 ·exact go 2 2 rfl
 ·exact go 1 1 rfl
 ·cases q; rfl
 ·exact go 4 2 rfl
theorem j_two {op:Int} (h:5≤op∧op≤20∧op≠17∧op≠18) (l:Vector Gkinds_sort 2) {s:Gkinds_sort} (q:g_kinds_joined op 2 l=some (s,0)):(op≠20→s.kind_=gOf op 0)∧(op=20→((vrd l 0).kind_=0∨(vrd l 0).kind_=s.kind_)∧((vrd l 1).kind_=0∨(vrd l 1).kind_=s.kind_)):=by
 have go:∀ A G:Int,g_kinds_joined op 2 l=(g_kinds_joined_1_i0 A G l (2:Int)).bind (fun r'2=>some (r'2.1,r'2.2))→s.kind_=G:=by
  intro A G e
  rw [e,asks_two,Option.bind_some] at q
  split at q
  ·cases q; rfl
  ·cases q
 by_cases hc:op=9∨op=10∨op=11∨op=12∨op=13∨op=14∨op=20
 ·rw [joined_cmp hc] at q
  split at q
  ·rename_i hf
   by_cases h20:op=20
   ·rw [if_pos h20] at q
    refine ⟨fun z=>absurd h20 z,fun _=>?_⟩
    cases q
    exact ⟨(of_decide_eq_true hf.1).symm,(of_decide_eq_true hf.2).symm⟩
   ·rw [if_neg h20] at q
    refine ⟨fun _=>?_,fun z=>absurd z h20⟩
    cases q
    unfold gOf
    rw [if_neg h20,if_neg (by omega),if_neg (by omega)]
  ·cases q
 ·refine ⟨fun _=>?_,fun z=>absurd (by omega) hc⟩
  have:op=5∨op=6∨op=7∨op=8∨op=15∨op=16∨op=19:=by omega
  rcases this with rfl | rfl | rfl | rfl | rfl | rfl | rfl
  ·exact go 2 2 rfl
  ·exact go 2 2 rfl
  ·exact go 2 2 rfl
  ·exact go 2 2 rfl
  ·exact go 1 1 rfl
  ·exact go 1 1 rfl
  ·exact go 4 4 rfl
theorem inv_one {f:Nat} {cols:List GColumn} {e:GExpr} (h:e.Op=3∨e.Op=4∨e.Op=17∨e.Op=18) (hlen:e.Args.length=1) (hc:okK f cols (lrd e.Args 0)) {s:Gkinds_sort} (q:g_kinds_of (f+1) e cols=some (s,0)):s.kind_=gOf e.Op 0:=by
 obtain ⟨t,er,hp,_,_⟩:=hc
 unfold g_kinds_of g_kinds_of_b at q
 rw [if_neg (by omega),if_neg (by omega)] at q
 have p0:=pstep (e:=e) (cols:=cols) (RP:=g_kinds_of f) (k:=0) (by omega) (by decide) hp rep2
 by_cases he:er≠0
 ·rw [if_pos he] at p0
  rw [show loopO (g_kinds_of_l1 e cols (g_kinds_of f)) ((0:Int),(Vector.replicate 2 Gkinds_sort.zero))=_ from loopO_done p0] at q
  rw [Option.bind_some] at q
  cases q
  exact absurd rfl he
 ·rw [if_neg he] at p0
  have p1:=pdone (e:=e) (cols:=cols) (RP:=g_kinds_of f) (k:=1) hlen.symm (vwr rep2 0 t)
  rw [show loopO (g_kinds_of_l1 e cols (g_kinds_of f)) ((0:Int),(Vector.replicate 2 Gkinds_sort.zero))=_ from (loopO_next p0).trans (loopO_done p1),Option.bind_some] at q
  dsimp only at q
  rw [hlen,show ((1:Nat):Int)=1 from rfl] at q
  cases hj:g_kinds_joined e.Op 1 (vwr rep2 0 t) with
  | none=>rw [hj] at q; cases q
  | some x =>
   obtain ⟨x1,x2⟩:=x
   rw [hj,Option.bind_some] at q
   cases q
   exact j_one h _ hj
theorem inv_two {f:Nat} {cols:List GColumn} {e:GExpr} (h:5≤e.Op∧e.Op≤20∧e.Op≠17∧e.Op≠18) (hlen:e.Args.length=2) (hc:okK f cols (lrd e.Args 0)) (hd:okK f cols (lrd e.Args 1)) {s:Gkinds_sort} (q:g_kinds_of (f+1) e cols=some (s,0)):∃ s0 s1,g_kinds_of f (lrd e.Args 0) cols=some (s0,0)∧g_kinds_of f (lrd e.Args 1) cols=some (s1,0)∧(e.Op≠20→s.kind_=gOf e.Op 0)∧(e.Op=20→(s0.kind_=0∨s0.kind_=s.kind_)∧(s1.kind_=0∨s1.kind_=s.kind_)):=by
 obtain ⟨t,er,hp,_,_⟩:=hc
 obtain ⟨u,eq,hp2,_,_⟩:=hd
 unfold g_kinds_of g_kinds_of_b at q
 rw [if_neg (by omega),if_neg (by omega)] at q
 have p0:=pstep (e:=e) (cols:=cols) (RP:=g_kinds_of f) (k:=0) (by omega) (by decide) hp rep2
 by_cases he:er≠0
 ·rw [if_pos he] at p0
  rw [show loopO (g_kinds_of_l1 e cols (g_kinds_of f)) ((0:Int),(Vector.replicate 2 Gkinds_sort.zero))=_ from loopO_done p0] at q
  rw [Option.bind_some] at q
  cases q
  exact absurd rfl he
 rw [if_neg he] at p0
 have p1:=pstep (e:=e) (cols:=cols) (RP:=g_kinds_of f) (k:=1) (by omega) (by decide) hp2 (vwr rep2 0 t)
 by_cases hq:eq≠0
 ·rw [if_pos hq] at p1
  rw [show loopO (g_kinds_of_l1 e cols (g_kinds_of f)) ((0:Int),(Vector.replicate 2 Gkinds_sort.zero))=_ from (loopO_next p0).trans (loopO_done p1)] at q
  rw [Option.bind_some] at q
  cases q
  exact absurd rfl hq
 rw [if_neg hq] at p1
 have p2:=pdone (e:=e) (cols:=cols) (RP:=g_kinds_of f) (k:=2) hlen.symm (vwr (vwr rep2 0 t) 1 u)
 rw [show loopO (g_kinds_of_l1 e cols (g_kinds_of f)) ((0:Int),(Vector.replicate 2 Gkinds_sort.zero))=_ from (loopO_next p0).trans ((loopO_next p1).trans (loopO_done p2)),Option.bind_some] at q
 dsimp only at q
 rw [hlen,show ((2:Nat):Int)=2 from rfl] at q
 have hv0:vrd (vwr (vwr rep2 0 t) 1 u) 0=t:=by rw [vrd_vwr_ne (by decide) (by decide),vrd_vwr_eq (by decide)]
 have hv1:vrd (vwr (vwr rep2 0 t) 1 u) 1=u:=vrd_vwr_eq (by decide)
 cases hj:g_kinds_joined e.Op 2 (vwr (vwr rep2 0 t) 1 u) with
 | none=>rw [hj] at q; cases q
 | some x =>
  obtain ⟨x1,x2⟩:=x
  rw [hj,Option.bind_some] at q
  cases q
  have hz:=j_two h _ hj
  rw [hv0,hv1] at hz
  refine ⟨t,u,?_,?_,hz⟩
  ·rw [hp,Classical.not_not.1 he]
  ·rw [hp2,Classical.not_not.1 hq]
theorem place_col (e:GExpr) (cols:List GColumn) (hl:cols.length < 9223372036854775807):∃ r,loopO (g_eval_thingOf_l0 e cols) (0:Int)=some r∧((∃ i:Nat,i < cols.length∧(lrd cols i).Name=e.Name∧r=.inl (Geval_thing.place (i:Int)))∨((∀ i,i < cols.length→(lrd cols i).Name≠e.Name)∧r=.inr ())):=by
 refine loopO_times (step:=g_eval_thingOf_l0 e cols) cols.length (fun k (_:Unit)=>(k:Int)) (fun k _=>∀ i,i < k→(lrd cols i).Name≠e.Name) _ (fun k _ hk hi=>?_) (fun _ hi=>?_) (s:=()) (fun i hi=>by omega)
 ·unfold g_eval_thingOf_l0
  dsimp only
  rw [if_pos (natLt hk),if_pos (natIn hk),Int.toNat_natCast]
  by_cases h:(lrd cols k).Name=e.Name
  ·right
   exact ⟨.inl (Geval_thing.place (k:Int)),by rw [if_pos h],.inl ⟨k,hk,h,rfl⟩⟩
  ·left
   refine ⟨(),by rw [if_neg h,w64_succ (by omega)],fun i hik=>?_⟩
   rcases Nat.lt_or_ge i k with h4 | h4
   ·exact hi i h4
   ·rw [show i=k by omega]; exact h
 ·unfold g_eval_thingOf_l0
  dsimp only
  rw [if_neg natNlt]
  exact ⟨_,rfl,.inr ⟨hi,rfl⟩⟩
theorem worth_eq {cols:List GColumn} {row:List GValue} (hl:cols.length < 9223372036854775807) (hf:colsFine cols) (hlen:row.length=cols.length) (hr:∀ k,k < row.length→CanV (lrd row k)∧((lrd row k).Kind=0∨(lrd row k).Kind=(lrd cols k).Kind)):∀ (m f:Nat) (e:GExpr),m < f→goodE m e→goodV m e→∃ t r,g_eval_thingOf f e cols=some t∧g_eval_thing_of f t row=some r∧g_ref_valued f e cols row=some r∧(∃ G,OkR G r)∧∀ s,g_kinds_of f e cols=some (s,0)→r.1.Kind=0∨r.1.Kind=s.kind_
 | _,0,_,h,_,_=>by omega
 | 0,_,_,_,h,_=>h.elim
 | m+1,f+1,e,hmf,hg,hv=>by
  have hgo:=hg
  obtain ⟨hop,hw,_,hargs⟩:=hg
  obtain ⟨hlit,hvargs⟩:=hv
  have wl:∀ {n:Int},(∀ op:Int,op=e.Op→g_expr_wants op=some n)→(e.Args.length:Int)=n:=by
   intro n h
   rw [h _ rfl] at hw
   exact (Option.some.inj hw).symm
  unfold g_eval_thingOf g_eval_thingOf_b g_ref_valued g_ref_valued_b
  by_cases h1:e.Op=1
  ·have hn:(e.Args.length:Int)=0:=wl (fun op q=>by rw [q,h1]; rfl)
   rw [if_neg (by omega),if_neg (by omega),if_pos h1,if_pos h1]
   refine ⟨_,(e.Value,0),rfl,rfl,rfl,⟨_,.ok (hlit h1) (.inr rfl)⟩,fun s q=>.inr ?_⟩
   unfold g_kinds_of g_kinds_of_b at q
   rw [if_pos h1,letO_eq] at q
   cases q
   rfl
  by_cases h2:e.Op=2
  ·have hn:(e.Args.length:Int)=0:=wl (fun op q=>by rw [q,h2]; rfl)
   rw [if_neg (by omega),if_neg (by omega),if_neg h1,if_neg h1,if_pos h2]
   obtain ⟨r,h3,h4⟩:=place_col e cols hl
   rw [h3,Option.bind_some]
   rcases colAt cols e.Name hl with ⟨i,hi,hni,hc⟩ | ⟨hno,hc⟩
   ·rcases h4 with ⟨j,hj,hnj,rfl⟩ | ⟨hno,_⟩
    ·have hij:j=i:=hf.once j i hj hi (hnj.trans hni.symm)
     subst hij
     have hp:(0:Int)≤(j:Int)∧(j:Int) < (row.length:Int):=by omega
     rw [hc,Option.bind_some,if_neg (by omega),if_pos hp,Int.toNat_natCast]
     refine ⟨_,(lrd row j,0),rfl,?_,rfl,⟨_,.ok (hr j (by omega)).1 (.inr rfl)⟩,fun s q=>?_⟩
     ·unfold g_eval_thing_of g_eval_place_of
      dsimp only
      rw [if_pos hp,Int.toNat_natCast]
     ·obtain ⟨r',h5,h6⟩:=of_col e cols hl
      unfold g_kinds_of g_kinds_of_b at q
      rw [if_neg h1,if_pos h2,h5,Option.bind_some] at q
      rcases h6 with ⟨i,hi',hni',rfl⟩ | ⟨hno,_⟩
      ·have:i=j:=hf.once i j hi' hj (hni'.trans hnj.symm)
       subst this
       cases q
       exact (hr i (by omega)).2
      ·exact absurd hnj (hno j hj)
    ·exact absurd hni (hno i hi)
   ·rcases h4 with ⟨j,hj,hnj,_⟩ | ⟨_,rfl⟩
    ·exact absurd hnj (hno j hj)
    ·rw [hc,Option.bind_some,if_pos (by decide)]
     exact ⟨_,(GValue.zero,5),rfl,rfl,rfl,⟨0,.bad (by decide)⟩,fun _ _=>.inl rfl⟩
  rw [if_neg h1,if_neg h1,if_neg h2]
  by_cases hu:e.Op=3∨e.Op=4∨e.Op=17∨e.Op=18
  ·have hn:(e.Args.length:Int)=1:=wl (fun op q=>by rcases hu with h | h | h | h<;>rw [q,h]<;>rfl)
   have hlt:0 < e.Args.length:=by omega
   obtain ⟨t,r,h3,h4,h5,⟨G,h6⟩,hk0⟩:=worth_eq hl hf hlen hr m f _ (by omega) (hargs 0 hlt) (hvargs 0 hlt)
   rw [if_pos hn,if_pos hlt,if_pos hlt,h3,h5,Option.bind_some,Option.bind_some,letO_eq,if_pos (.inr hn)]
   have hsole:g_eval_thing_of (f+1) (Geval_thing.sole e.Op t) row=if r.2≠0 then some (GValue.zero,r.2) else (g_eval_one e.Op r.1).bind fun r'2=>some (r'2.1,r'2.2):=by
    rw [show g_eval_thing_of (f+1) (Geval_thing.sole e.Op t) row=g_eval_sole_of_b (g_eval_thing_of f) ⟨e.Op,t⟩ row from rfl]
    unfold g_eval_sole_of_b
    dsimp only
    rw [h4,Option.bind_some]
   by_cases he:r.2≠0
   ·rw [if_pos he]
    rw [if_pos he] at hsole
    exact ⟨_,_,rfl,hsole,rfl,⟨0,.bad he⟩,fun _ _=>.inl rfl⟩
   ·rw [if_neg he]
    rw [if_neg he] at hsole
    obtain ⟨r2,h7,h8,h9⟩:=did_one hu (h6.can (Classical.not_not.1 he)) 0
    rw [h7,bpair] at hsole
    rw [h8,bpair]
    refine ⟨_,_,rfl,hsole,rfl,⟨_,h9⟩,fun s q=>?_⟩
    rw [inv_one hu (by omega) (kind_eq hl hf m f _ (by omega) (hargs 0 hlt)) q]
    exact h9.kind
  ·have hb:5≤e.Op∧e.Op≤20∧e.Op≠17∧e.Op≠18:=by omega
   have hn:(e.Args.length:Int)=2:=wl (fun op q=>by
    have:op=5∨op=6∨op=7∨op=8∨op=9∨op=10∨op=11∨op=12∨op=13∨op=14∨op=15∨op=16∨op=19∨op=20:=by omega
    rcases this with h | h | h | h | h | h | h | h | h | h | h | h | h | h<;>rw [h]<;>rfl)
   have hlt:0 < e.Args.length:=by omega
   have hlt2:1 < e.Args.length:=by omega
   obtain ⟨t,r,h3,h4,h5,⟨G,h6⟩,hk0⟩:=worth_eq hl hf hlen hr m f _ (by omega) (hargs 0 hlt) (hvargs 0 hlt)
   obtain ⟨t',r',g3,g4,g5,⟨G',g6⟩,hk1⟩:=worth_eq hl hf hlen hr m f _ (by omega) (hargs 1 hlt2) (hvargs 1 hlt2)
   rw [if_neg (by omega),if_pos hn,if_pos hlt,if_pos hlt,h3,h5,Option.bind_some,Option.bind_some,if_pos hlt2,if_pos hlt2,g3,g5,Option.bind_some,Option.bind_some,letO_eq]
   have kd0:=kind_eq hl hf m f _ (by omega) (hargs 0 hlt)
   have kd1:=kind_eq hl hf m f _ (by omega) (hargs 1 hlt2)
   have htwin:g_eval_thing_of (f+1) (Geval_thing.twin e.Op t t') row=g_eval_twin_of_b (g_eval_thing_of f) ⟨e.Op,t,t'⟩ row:=rfl
   unfold g_eval_twin_of_b at htwin
   dsimp only at htwin
   rw [h4,Option.bind_some,g4,Option.bind_some] at htwin
   by_cases he:r.2≠0
   ·rw [if_pos (.inl he),if_pos he]
    rw [if_pos he] at htwin
    exact ⟨_,_,rfl,htwin,rfl,⟨0,.bad he⟩,fun _ _=>.inl rfl⟩
   ·have c:=h6.can (Classical.not_not.1 he)
    rw [if_neg (fun q=>q.elim he (by omega)),letO_eq]
    rw [if_neg he,short_eq e.Op c,Option.bind_some] at htwin
    have other:∀ x,(x=if r'.2≠0 then some (GValue.zero,r'.2) else (g_eval_two e.Op r.1 r'.1).bind fun r'8=>some (r'8.1,r'8.2))→∃ r2,x=some r2∧(if r'.2≠0 then some (GValue.zero,r'.2) else (g_ref_did e.Op r.1 r'.1).bind fun r'6=>some (r'6.1,r'6.2))=some r2∧(∃ G,OkR G r2)∧∀ s,g_kinds_of (f+1) e cols=some (s,0)→r2.1.Kind=0∨r2.1.Kind=s.kind_:=by
     rintro x rfl
     by_cases he2:r'.2≠0
     ·rw [if_pos he2,if_pos he2]
      exact ⟨_,rfl,rfl,⟨0,.bad he2⟩,fun _ _=>.inl rfl⟩
     ·obtain ⟨r2,h7,h8,h9⟩:=did_two hb c (g6.can (Classical.not_not.1 he2))
      rw [if_neg he2,if_neg he2,h7,h8,bpair]
      refine ⟨_,rfl,rfl,⟨_,h9⟩,fun s q=>?_⟩
      obtain ⟨s0,s1,i0,i1,i2,i3⟩:=inv_two hb (by omega) kd0 kd1 q
      have hkind:=h9.kind
      by_cases h20:e.Op=20
      ·obtain ⟨_,i4⟩:=i3 h20
       have w:=hk1 s1 i1
       rw [show gOf e.Op r'.1.Kind=r'.1.Kind by unfold gOf; rw [if_pos h20]] at hkind
       omega
      ·rw [i2 h20]
       rw [show gOf e.Op r'.1.Kind=gOf e.Op 0 by unfold gOf; rw [if_neg h20,if_neg h20]] at hkind
       exact hkind
    by_cases k20:e.Op=20∧r.1.Kind≠0
    ·rw [if_pos k20] at htwin
     rw [if_pos (decide_eq_true (.inl k20))]
     refine ⟨_,_,rfl,htwin,rfl,⟨_,.ok c (.inr rfl)⟩,fun s q=>?_⟩
     obtain ⟨s0,s1,i0,i1,i2,i3⟩:=inv_two hb (by omega) kd0 kd1 q
     obtain ⟨i4,_⟩:=i3 k20.1
     have w:=hk0 s0 i0
     have k2:=k20.2
     dsimp only
     omega
    ·rw [if_neg k20] at htwin
     by_cases ks:r.1.Kind=1∧((e.Op=15∧r.1.Int_=0)∨(e.Op=16∧r.1.Int_=1))
     ·rw [if_pos (decide_eq_true ks)] at htwin
      rw [if_pos (decide_eq_true (.inr ks))]
      refine ⟨_,_,rfl,htwin,rfl,⟨_,.ok c (.inr rfl)⟩,fun s q=>.inr ?_⟩
      obtain ⟨s0,s1,i0,i1,i2,i3⟩:=inv_two hb (by omega) kd0 kd1 q
      rw [i2 (by omega)]
      unfold gOf
      rw [if_neg (by omega),if_neg (by omega),if_neg (by omega)]
      exact ks.1
     ·rw [if_neg (by rw [decide_eq_false ks]; decide)] at htwin
      rw [if_neg (by rw [decide_eq_false (fun q=>q.elim k20 ks)]; decide)]
      obtain ⟨r2,h7,h8,h9⟩:=other _ rfl
      exact ⟨_,r2,rfl,htwin.trans h7,h8,h9⟩
end Go.Proofs.YthnkbagmaljjjaaGreatDoor.VM

/- Words and rules that the proof uses. -/
namespace Go.Proofs.YthnkbagmaljjjaaGreatDoor.VM
open Go Go.RowKit
theorem of_in {e:GExpr} {cols:List GColumn} {k:Int} {n:Bool} (h:g_kinds_Of e cols=some (k,n,0)):g_expr_Check e=some 0∧g_kinds_Columns cols=some 0∧∃ s,g_kinds_of 100000 e cols=some (s,0)∧s.kind_=k:=by
 unfold g_kinds_Of at h
 cases hc:g_expr_Check e with
 | none=>rw [hc] at h; cases h
 | some x =>
  rw [hc,Option.bind_some] at h
  by_cases hx:x≠0
  ·rw [if_pos hx] at h; cases h; exact absurd rfl hx
  rw [if_neg hx] at h
  cases hd:g_kinds_Columns cols with
  | none=>rw [hd] at h; cases h
  | some y =>
   rw [hd,Option.bind_some] at h
   by_cases hy:y≠0
   ·rw [if_pos hy] at h; cases h; exact absurd rfl hy
   rw [if_neg hy] at h
   cases ho:g_kinds_of 100000 e cols with
   | none=>rw [ho] at h; cases h
   | some z =>
    obtain ⟨s,er⟩:=z
    rw [ho,Option.bind_some] at h
    dsimp only at h
    by_cases he:er≠0
    ·rw [if_pos he] at h; cases h; exact absurd rfl he
    ·rw [if_neg he] at h
     cases h
     rw [Classical.not_not.1 hx,Classical.not_not.1 hy,Classical.not_not.1 he]
     exact ⟨rfl,rfl,s,rfl,rfl⟩
theorem none_eq (e:GExpr):∃ b,g_table_none e=some b∧g_ref_noExpr e=some b:=by
 refine ⟨_,rfl,?_⟩
 unfold g_ref_noExpr
 congr 1
 exact decide_eq_decide.2 ⟨fun h=>⟨⟨⟨h.1.1.1,h.1.2⟩,h.1.1.2⟩,h.2⟩,fun h=>⟨⟨⟨h.1.1.1,h.1.2⟩,h.1.1.2⟩,h.2⟩⟩
theorem cond_in {e:GExpr} {cols:List GColumn} (h:g_table_Condition e cols=some 0) (hn:g_table_none e=some false):g_expr_Check e=some 0∧g_kinds_Columns cols=some 0∧∃ s,g_kinds_of 100000 e cols=some (s,0)∧(s.kind_=0∨s.kind_=1):=by
 unfold g_table_Condition at h
 rw [hn,Option.bind_some,if_neg (by decide)] at h
 cases ho:g_kinds_Of e cols with
 | none=>rw [ho] at h; cases h
 | some z =>
  obtain ⟨k,n,er⟩:=z
  rw [ho,Option.bind_some] at h
  dsimp only at h
  by_cases hb:((er=0)∧(k≠1))∧(k≠0)
  ·rw [if_pos hb] at h; cases h
  ·rw [if_neg hb] at h
   cases h
   obtain ⟨h1,h2,s,h3,h4⟩:=of_in ho
   exact ⟨h1,h2,s,h3,by omega⟩
theorem eval_val {e:GExpr} {cols:List GColumn} {row:List GValue} (q:GExpr.ok e) (hl:cols.length < 9223372036854775807) (hc:∀ c∈cols,c.Name.length < 9223372036854775807) (hrl:row.length < 9223372036854775807) (hr:∀ v∈row,okI v.Int_) (h1:g_expr_Check e=some 0) (h3:g_kinds_Row row cols=some 0):∃ r,g_eval_Eval e cols row=some r∧g_ref_valued 100000 e cols row=some r∧(∃ G,OkR G r)∧∀ s,g_kinds_of 100000 e cols=some (s,0)→r.1.Kind=0∨r.1.Kind=s.kind_:=by
 obtain ⟨g1,g2,g3⟩:=row_good hrl hr h3
 obtain ⟨t,r,e1,e2,e3,⟨G,e4⟩,e5⟩:=worth_eq hl (cols_fine hl hc g1) g2 g3 7 100000 e (by decide) (check_good q h1) (check_goodV q h1)
 refine ⟨r,?_,e3,⟨G,e4⟩,e5⟩
 unfold g_eval_Eval
 rw [h1,Option.bind_some,if_neg (by decide),h3,Option.bind_some,if_neg (by decide),e1,Option.bind_some,e2,Option.bind_some]
 cases e4 with
 | ok c k=>exact if_neg (fun q=>q rfl)
 | bad h=>exact if_pos h
theorem holds_eq {e:GExpr} {cols:List GColumn} {row:List GValue} (q:GExpr.ok e) (hl:cols.length < 9223372036854775807) (hc:∀ c∈cols,c.Name.length < 9223372036854775807) (hrl:row.length < 9223372036854775807) (hr:∀ v∈row,okI v.Int_):∃ r,g_table_Holds e cols row=some r∧g_ref_True e cols row=some r∧(r.2≠0→r.1=false)∧(r.2=0→g_kinds_Row row cols=some 0):=by
 unfold g_table_Holds g_ref_True
 obtain ⟨x,h1,h2⟩:=cond_eq q hl hc
 rw [h1,h2,Option.bind_some,Option.bind_some]
 by_cases hx:x≠0
 ·rw [if_pos hx,if_pos hx]; exact ⟨_,rfl,rfl,fun _=>rfl,fun q=>absurd q hx⟩
 rw [if_neg hx,if_neg hx]
 obtain ⟨y,h3,h4⟩:=row_eq row cols hl hc hr
 rw [h4,Option.bind_some]
 have h3':g_kinds_Row row cols=some y:=h3
 rw [h3',Option.bind_some]
 by_cases hy:y≠0
 ·rw [if_pos hy,if_pos hy]; exact ⟨_,rfl,rfl,fun _=>rfl,fun q=>absurd q hy⟩
 rw [if_neg hy,if_neg hy]
 rw [Classical.not_not.1 hx] at h1
 have hy0:=Classical.not_not.1 hy
 rw [hy0] at h3
 obtain ⟨b,h5,h6⟩:=none_eq e
 rw [h5,h6,Option.bind_some,Option.bind_some]
 cases b with
 | true=>rw [if_pos rfl,if_pos rfl]; exact ⟨_,rfl,rfl,fun q=>absurd rfl q,fun _=>congrArg some hy0⟩
 | false =>
  rw [if_neg (by decide),if_neg (by decide)]
  obtain ⟨c1,c2,s,c3,c4⟩:=cond_in h1 h5
  obtain ⟨r,e1,e3,⟨G,e4⟩,e5⟩:=eval_val q hl hc hrl hr c1 h3
  have hk:=e5 s c3
  rw [e1,e3,Option.bind_some,Option.bind_some]
  cases e4 with
  | bad he =>
   rw [if_pos he]
   exact ⟨_,rfl,rfl,fun _=>rfl,fun _=>congrArg some hy0⟩
  | ok c k =>
   rename_i v
   rw [if_neg (fun q=>q rfl),show g_ref_boolOf 2=g_ref_boolOf (trN (some true)) from rfl,boolOf_tr,Option.bind_some]
   refine ⟨_,rfl,?_,fun q=>absurd rfl q,fun _=>congrArg some hy0⟩
   dsimp only at hk ⊢
   congr 2
   apply decide_eq_decide.2
   rw [is_bool c true]
   constructor
   ·exact fun h=>h.2
   ·intro h
    refine ⟨?_,h⟩
    have hk2:v.Kind=0∨v.Kind=1:=by omega
    cases c with
    | null=>exact absurd h (show ¬ (0:Int)=1 by decide)
    | bool b'=>rfl
    | int n hn=>exact absurd hk2 (show ¬ ((2:Int)=0∨(2:Int)=1) by decide)
    | real n hn=>exact absurd hk2 (show ¬ ((3:Int)=0∨(3:Int)=1) by decide)
    | text n hn hu=>exact absurd hk2 (show ¬ ((4:Int)=0∨(4:Int)=1) by decide)
end Go.Proofs.YthnkbagmaljjjaaGreatDoor.VM

/- Words and rules that the proof uses. -/
namespace Go.Proofs.YthnkbagmaljjjaaGreatDoor.VM
open Go Go.RowKit
theorem value_int {v:GValue} (h:g_value_Check v=some 0) (hk:v.Kind=2):v.Bits=0∧v.Text=[]:=by
 unfold g_value_Check at h
 rw [hk,if_neg (by decide)] at h
 by_cases hl:(v.Text.length:Int) > 40
 ·rw [if_pos hl] at h; cases h
 ·rw [if_neg hl,letO_eq] at h
  by_cases hb:v.Bits=0∧v.Text=[]
  ·exact hb
  ·rw [if_pos (by
    refine decide_eq_true (.inl ?_)
    by_cases h1:v.Text=[]
    ·exact .inr ⟨by decide,fun h2=>hb ⟨h2,h1⟩⟩
    ·exact .inl ⟨by decide,h1⟩)] at h
   cases h
theorem row_loop (row:List GValue) (cols:List GColumn) (hlen:row.length=cols.length) (hl:cols.length < 9223372036854775807) (hr:∀ v∈row,okI v.Int_):∃ o,loopO (g_kinds_fits_l0 row cols) (0:Int)=some o∧match o with | .inl y=>y≠0 | .inr _=>∀ k,k < row.length→g_kinds_fits_l0 row cols (k:Int)=some (.inl (w64 ((k:Int)+1))):=by
 refine loop_passes row.length (by omega) (fun k hk=>?_) ?_
 ·unfold g_kinds_fits_l0
  dsimp only
  obtain ⟨e,h1,_,_⟩:=check_eq (lrd row k) (hr _ (lrd_mem hk))
  have hk2:(0:Int)≤(k:Int)∧(k:Int) < (cols.length:Int):=by omega
  rw [if_pos (natLt hk),if_pos (natIn hk),Int.toNat_natCast,h1,Option.bind_some]
  by_cases he:e≠0
  ·rw [if_pos he]; exact .inr ⟨e,he,rfl⟩
  ·rw [if_neg he]
   simp only [if_pos hk2]
   by_cases h0:(lrd row k).Kind=0
   ·rw [if_pos h0,Option.bind_some]
    by_cases hn:(!((lrd cols k).Null))=true
    ·rw [if_pos hn]; exact .inr ⟨12,by decide,rfl⟩
    ·rw [if_neg hn,if_neg (fun q=>q h0),Option.bind_some,if_neg (by decide)]; exact .inl rfl
   ·rw [if_neg h0,Option.bind_some,if_neg (show ¬ (false=true) by decide),if_pos h0,Option.bind_some]
    by_cases hn:(lrd row k).Kind≠(lrd cols k).Kind
    ·rw [if_pos (decide_eq_true hn)]; exact .inr ⟨2,by decide,rfl⟩
    ·rw [if_neg (by rw [decide_eq_false hn]; decide)]; exact .inl rfl
 ·unfold g_kinds_fits_l0
  dsimp only
  rw [if_neg natNlt]
theorem row_first {row:List GValue} {cols:List GColumn} (h:g_kinds_Row row cols=some 0) (hl:cols.length < 9223372036854775807) (hc:∀ c∈cols,c.Name.length < 9223372036854775807) (hr:∀ v∈row,okI v.Int_) (hpos:0 < cols.length) (hk:(lrd cols 0).Kind=2) (hn:(lrd cols 0).Null=false) :
  0 < row.length∧(lrd row 0).Kind=2∧(lrd row 0).Bits=0∧(lrd row 0).Text=[]:=by
 unfold g_kinds_Row g_kinds_fits at h
 obtain ⟨e,h1,_⟩:=cols_eq cols hl hc
 rw [h1,Option.bind_some] at h
 by_cases he:e≠0
 ·rw [if_pos he] at h
  exact absurd (Option.some.inj h) he
 ·rw [if_neg he] at h
  by_cases hlen:(row.length:Int)≠(cols.length:Int)
  ·rw [if_pos hlen] at h; cases h
  ·have hlen2:row.length=cols.length:=by omega
   rw [if_neg hlen] at h
   obtain ⟨o,h2,h3⟩:=row_loop row cols hlen2 hl hr
   rw [h2,Option.bind_some] at h
   cases o with
   | inl y=>exact absurd (Option.some.inj h) h3
   | inr u =>
    have h4:=h3 0 (by omega)
    obtain ⟨e2,h5,_,_⟩:=check_eq (lrd row 0) (hr _ (lrd_mem (by omega)))
    unfold g_kinds_fits_l0 at h4
    dsimp only at h4
    have hk1:(0:Int)≤((0:Nat):Int)∧((0:Nat):Int) < (row.length:Int):=by omega
    have hk2:(0:Int)≤((0:Nat):Int)∧((0:Nat):Int) < (cols.length:Int):=by omega
    rw [if_pos hk1.2,if_pos hk1,Int.toNat_natCast,h5,Option.bind_some] at h4
    simp only [if_pos hk2] at h4
    by_cases he2:e2≠0
    ·rw [if_pos he2] at h4; cases h4
    ·rw [if_neg he2] at h4
     have he3:e2=0:=by omega
     subst he3
     by_cases h0:(lrd row 0).Kind=0
     ·rw [if_pos h0,hn,Option.bind_some,if_pos (by decide)] at h4; cases h4
     ·rw [if_neg h0,Option.bind_some,if_neg (show ¬ (false=true) by decide),if_pos h0,hk,Option.bind_some] at h4
      by_cases h6:(lrd row 0).Kind≠2
      ·rw [if_pos (decide_eq_true h6)] at h4; cases h4
      ·have h7:(lrd row 0).Kind=2:=by omega
       exact ⟨by omega,h7,value_int h5 h7⟩
def fullAt (d:Vector GCell 4) (i:Nat):Bool:=(vrd d i).Full
def intAt (d:Vector GCell 4) (i:Nat):Int:=(lrd (vrd d i).Row 0).Int_
def dupB (d:Vector GCell 4) (i:Nat):Bool:=(List.range i).any fun j=>fullAt d i && (fullAt d j && decide (intAt d j=intAt d i))
def keysOk (d:Vector GCell 4):Prop:=∀ i,i < 4→fullAt d i=true→0 < (vrd d i).Row.length∧(lrd (vrd d i).Row 0).Kind=2∧(lrd (vrd d i).Row 0).Bits=0∧(lrd (vrd d i).Row 0).Text=[]
theorem lrd_range {n k:Nat} (h:k < n):lrd (List.range n) k=k:=by
 rw [lrd_at (by rw [List.length_range]; exact h),List.getElem_range]
theorem val_eq {a b:GValue} (h1:a.Kind=2∧a.Bits=0∧a.Text=[]) (h2:b.Kind=2∧b.Bits=0∧b.Text=[]):(a=b)↔a.Int_=b.Int_:=by
 obtain ⟨k,i,bb,t⟩:=a
 obtain ⟨k2,i2,bb2,t2⟩:=b
 dsimp only at *
 obtain ⟨rfl,rfl,rfl⟩:=h1
 obtain ⟨rfl,rfl,rfl⟩:=h2
 simp
theorem keys_eq {d:Vector GCell 4} (H:keysOk d):g_table_keys d=some (if (List.range 4).any (dupB d)=true then 8 else 0):=by
 have hin:∀ i:Nat,i < 4→loopO (g_table_keys_l1 d (i:Int)) (0:Int)=some (if dupB d i=true then .inl 8 else .inr ()):=by
  intro i hi
  refine any_loop (step:=g_table_keys_l1 d (i:Int)) (List.range i) (fun j=>fullAt d i && (fullAt d j && decide (intAt d j=intAt d i))) (.inl 8) (.inr ()) (by rw [List.length_range]; omega) (fun k hk=>?_) ?_
  ·rw [List.length_range] at hk
   rw [lrd_range hk]
   unfold g_table_keys_l1
   dsimp only
   rw [Int.toNat_natCast,if_pos (natLt hk),if_pos (natIn hk),Int.toNat_natCast]
   have hfi:(vrd d i).Full=fullAt d i:=rfl
   have hfk:(vrd d k).Full=fullAt d k:=rfl
   rw [hfi,hfk]
   by_cases h1:fullAt d i=true
   ·rw [if_pos h1]
    by_cases h2:fullAt d k=true
    ·obtain ⟨p1,p2⟩:=H i hi h1
     obtain ⟨p3,p4⟩:=H k (by omega) h2
     rw [if_pos h2,if_pos p3,if_pos p1,Option.bind_some,h1,h2,Bool.true_and,Bool.true_and]
     have e:decide ((lrd (vrd d k).Row 0)=(lrd (vrd d i).Row 0))=decide (intAt d k=intAt d i):=decide_eq_decide.2 (val_eq p4 p2)
     rw [e]
     by_cases h3:decide (intAt d k=intAt d i)=true
     ·rw [if_pos h3,if_pos h3]
     ·rw [if_neg h3,if_neg h3]
    ·rw [if_neg h2,Option.bind_some,h1,Bool.eq_false_iff.2 h2]
     rfl
   ·rw [if_neg h1,Option.bind_some,Bool.eq_false_iff.2 h1]
    rfl
  ·unfold g_table_keys_l1
   dsimp only
   rw [List.length_range,Int.toNat_natCast,if_neg natNlt]
 unfold g_table_keys
 have h:=any_loop (step:=g_table_keys_l0 d) (List.range 4) (dupB d) (.inl 8) (.inr ()) (by decide) (fun k hk=>by
  rw [List.length_range] at hk
  rw [lrd_range hk]
  unfold g_table_keys_l0
  dsimp only
  rw [if_pos (by omega),if_pos (by omega),if_pos (by omega),hin k hk,Option.bind_some]
  by_cases h1:dupB d k=true
  ·rw [if_pos h1,if_pos h1]
  ·rw [if_neg h1,if_neg h1]) (by
  unfold g_table_keys_l0
  dsimp only
  rw [if_neg (by decide)])
 rw [h,Option.bind_some]
 by_cases h1:(List.range 4).any (dupB d)=true
 ·rw [if_pos h1,if_pos h1]
 ·rw [if_neg h1,if_neg h1]
def keyAt (d:Vector GCell 4) (i:Nat):Option Int:=if fullAt d i=true then some (intAt d i) else none
theorem keysFault_eq {d:Vector GCell 4} (H:keysOk d):g_ref_keysFault d=some (if (List.range 4).any (dupB d)=true then 8 else 0):=by
 have hin:∀ (i:Nat) (seen:List Int),i < 4→fullAt d i=true→seen.length≤4→loopO (g_ref_keysFault_l1 d (i:Int) seen) (0:Int)=some (if (seen.any fun x=>decide (x=intAt d i))=true then .inl 8 else .inr ()):=by
  intro i seen hi hf hs
  refine any_loop (step:=g_ref_keysFault_l1 d (i:Int) seen) seen (fun x=>decide (x=intAt d i)) (.inl 8) (.inr ()) (by omega) (fun k hk=>?_) ?_
  ·unfold g_ref_keysFault_l1
   dsimp only
   rw [if_pos (natLt hk),if_pos (natIn hk),Int.toNat_natCast,Int.toNat_natCast,if_pos (H i hi hf).1]
   by_cases h1:lrd seen k=intAt d i
   ·rw [if_pos (decide_eq_true h1)]; exact if_pos h1
   ·rw [if_neg (show ¬ (decide (lrd seen k=intAt d i)=true) by rw [decide_eq_false h1]; decide)]; exact if_neg h1
  ·unfold g_ref_keysFault_l1
   dsimp only
   rw [if_neg natNlt]
 have hdup:∀ i,fullAt d i=true→(((List.range i).filterMap (keyAt d)).any fun x=>decide (x=intAt d i))=dupB d i:=by
  intro i hf
  unfold dupB
  rw [List.any_filterMap]
  congr 1
  funext j
  unfold keyAt
  by_cases h:fullAt d j=true
  ·rw [if_pos h,hf,h]; rfl
  ·rw [if_neg h,hf,Bool.eq_false_iff.2 h]; rfl
 have hlen:∀ i,((List.range i).filterMap (keyAt d)).length≤i:=fun i=>by
  have:=List.length_filterMap_le (keyAt d) (List.range i)
  rwa [List.length_range] at this
 obtain ⟨r,h1,h2⟩:=loopO_times (step:=g_ref_keysFault_l0 d) 4 (fun k (s:List Int)=>((k:Int),s)) (fun k s=>s=(List.range k).filterMap (keyAt d)∧(List.range k).any (dupB d)=false) (fun r=>r=if (List.range 4).any (dupB d)=true then .inl 8 else .inr ()) (fun k s hk hi=>by
  obtain ⟨rfl,hno⟩:=hi
  have hl:=hlen k
  unfold g_ref_keysFault_l0
  dsimp only
  rw [if_pos (by omega),if_pos (by omega)]
  have hfk:(vrd d k).Full=fullAt d k:=rfl
  rw [Int.toNat_natCast,hfk]
  by_cases hf:fullAt d k=true
  ·rw [if_neg (by rw [hf]; decide),hin k _ hk hf (by omega),hdup k hf,Option.bind_some]
   by_cases hdk:dupB d k=true
   ·right
    refine ⟨.inl 8,by rw [if_pos hdk]; rfl,?_⟩
    rw [if_pos (List.any_eq_true.2 ⟨k,List.mem_range.2 hk,hdk⟩)]
   ·left
    refine ⟨(List.range (k+1)).filterMap (keyAt d),?_,rfl,?_⟩
    ·rw [if_neg hdk]
     dsimp only
     rw [if_pos (H k hk hf).1,if_pos (show room _ _ by simp only [room,List.length_cons,List.length_nil]; omega),Option.bind_some,w64_succ (by omega),List.range_succ,List.filterMap_append]
     have:keyAt d k=some (intAt d k):=if_pos hf
     rw [show List.filterMap (keyAt d) [k]=[intAt d k] by simp [this]]
     rfl
    ·rw [List.range_succ,List.any_append,hno]
     simp [Bool.eq_false_iff.2 hdk]
  ·left
   rw [if_pos (by rw [Bool.eq_false_iff.2 hf]; rfl),Option.bind_some]
   refine ⟨(List.range (k+1)).filterMap (keyAt d),?_,rfl,?_⟩
   ·rw [w64_succ (by omega),List.range_succ,List.filterMap_append]
    have:keyAt d k=none:=if_neg hf
    simp [this]
   ·rw [List.range_succ,List.any_append,hno]
    have:dupB d k=false:=by
     unfold dupB
     rw [Bool.eq_false_iff.2 hf]
     simp
    simp [this]) (fun s hi=>by
  obtain ⟨rfl,hno⟩:=hi
  refine ⟨.inr (),?_,by rw [hno]; rfl⟩
  unfold g_ref_keysFault_l0
  dsimp only
  rw [if_neg (by decide)]) (s:=[]) ⟨rfl,rfl⟩
 have h1':loopO (g_ref_keysFault_l0 d) ((0:Int),([]:List Int))=some r:=h1
 unfold g_ref_keysFault
 rw [h1',h2,Option.bind_some]
 by_cases h3:(List.range 4).any (dupB d)=true
 ·rw [if_pos h3,if_pos h3]
 ·rw [if_neg h3,if_neg h3]
structure TabOk (t:GTable):Prop where
 name:t.Name.length < 9223372036854775807
 cols:t.Cols.length < 9223372036854775807
 names:∀ c∈t.Cols,c.Name.length < 9223372036854775807
 rows:∀ i j,i < 2→j < 4→∀ v∈(vrd (vrd t.Drawers i) j).Row,okI v.Int_
theorem vrd_mem {α:Type} [Inhabited α] {n:Nat} {v:Vector α n} {j:Nat} (h:j < n):vrd v j∈v.toList:=by
 rw [vrd_at h]
 simp
theorem tab_ok {t:GTable} (q:GTable.ok t):TabOk t:=by
 refine ⟨Nat.lt_of_le_of_lt q.2.1 (by decide),(colsOk q.2.2.1).1,(colsOk q.2.2.1).2,fun i j hi hj v hv=>?_⟩
 exact ((q.2.2.2 (vrd t.Drawers i) (vrd_mem hi) (vrd (vrd t.Drawers i) j) (vrd_mem hj)).2.2.2 v hv).2.1
theorem cells_eq {t:GTable} (ok:TabOk t) {i:Nat} (hi:i < 2):g_table_Check_l1 t (i:Int)=g_ref_TableFault_l1 t (i:Int):=by
 funext k
 unfold g_table_Check_l1 g_ref_TableFault_l1
 dsimp only
 by_cases h:k < 4
 ·rw [if_pos h,if_pos h]
  by_cases h0:0≤k∧k < 4
  ·rw [if_pos h0,if_pos h0,Int.toNat_natCast]
   obtain ⟨e,h1,h2⟩:=row_eq (vrd (vrd t.Drawers i) k.toNat).Row t.Cols ok.cols ok.names (ok.rows i k.toNat hi (by omega))
   rw [h1,h2]
   by_cases hf:(vrd (vrd t.Drawers i) k.toNat).Full=true
   ·rw [if_neg (show ¬ ((!(vrd (vrd t.Drawers i) k.toNat).Full)=true∧_) by rw [hf]; simp),if_neg (show ¬ ((!(vrd (vrd t.Drawers i) k.toNat).Full)=true) by rw [hf]; simp),if_pos hf]
    all_goals rfl
   ·rw [if_neg hf]
    by_cases hl:((vrd (vrd t.Drawers i) k.toNat).Row.length:Int) > 0
    ·rw [if_pos (show (!(vrd (vrd t.Drawers i) k.toNat).Full)=true∧_ from ⟨by rw [Bool.eq_false_iff.2 hf]; rfl,hl⟩),if_pos (by omega)]
     all_goals rfl
    ·rw [if_neg (fun q=>hl q.2),if_pos (show (!(vrd (vrd t.Drawers i) k.toNat).Full)=true by rw [Bool.eq_false_iff.2 hf]; rfl),if_neg (by omega)]
     all_goals rfl
  ·rw [if_neg h0,if_neg h0]
   all_goals rfl
 ·rw [if_neg h,if_neg h]
theorem cells_loop {t:GTable} (ok:TabOk t) (hpos:0 < t.Cols.length) (hk:(lrd t.Cols 0).Kind=2) (hn:(lrd t.Cols 0).Null=false) {i:Nat} (hi:i < 2):∃ o,loopO (g_table_Check_l1 t (i:Int)) (0:Int)=some o∧match o with | .inl y=>y≠0 | .inr _=>keysOk (vrd t.Drawers i):=by
 obtain ⟨o,h1,h2⟩:=loop_passes (step:=g_table_Check_l1 t (i:Int)) 4 (by decide) (fun k hk=>by
  unfold g_table_Check_l1
  dsimp only
  rw [if_pos (by omega),if_pos (by omega),Int.toNat_natCast,Int.toNat_natCast]
  obtain ⟨e,h1,h2⟩:=row_eq (vrd (vrd t.Drawers i) k).Row t.Cols ok.cols ok.names (ok.rows i k hi hk)
  rw [h1]
  split
  ·exact .inr ⟨3,by decide,rfl⟩
  ·split
   ·exact .inl rfl
   ·rw [Option.bind_some]
    by_cases he:e≠0
    ·rw [if_pos he]; exact .inr ⟨e,he,rfl⟩
    ·rw [if_neg he]; exact .inl rfl) (by
  unfold g_table_Check_l1
  dsimp only
  rw [if_neg (by decide)])
 refine ⟨o,h1,?_⟩
 cases o with
 | inl y=>exact h2
 | inr u =>
  intro k hk4 hf
  have h3:=h2 k hk4
  have hf2:(vrd (vrd t.Drawers i) k).Full=true:=hf
  unfold g_table_Check_l1 at h3
  dsimp only at h3
  obtain ⟨e,h4,_⟩:=row_eq (vrd (vrd t.Drawers i) k).Row t.Cols ok.cols ok.names (ok.rows i k hi hk4)
  rw [if_pos (by omega),if_pos (by omega),Int.toNat_natCast,Int.toNat_natCast,h4,if_neg (show ¬ ((!(vrd (vrd t.Drawers i) k).Full)=true∧_) by rw [hf2]; simp),if_neg (show ¬ ((!(vrd (vrd t.Drawers i) k).Full)=true) by rw [hf2]; simp),Option.bind_some] at h3
  by_cases he:e≠0
  ·rw [if_pos he] at h3; cases h3
  ·have he0:e=0:=by omega
   rw [he0] at h4
   exact row_first h4 ok.cols ok.names (ok.rows i k hi hk4) hpos hk hn
theorem drawers_eq {t:GTable} (ok:TabOk t) (hpos:0 < t.Cols.length) (hk:(lrd t.Cols 0).Kind=2) (hn:(lrd t.Cols 0).Null=false):g_table_Check_l0 t=g_ref_TableFault_l0 t:=by
 funext k
 unfold g_table_Check_l0 g_ref_TableFault_l0
 dsimp only
 by_cases h:k < 2
 ·rw [if_pos h,if_pos h]
  by_cases h0:0≤k∧k < 2
  ·rw [if_pos h0,if_pos h0]
   obtain ⟨i,rfl⟩:=Int.eq_ofNat_of_zero_le h0.1
   have hi:i < 2:=by omega
   obtain ⟨o,h1,h2⟩:=cells_loop ok hpos hk hn hi
   rw [← cells_eq ok hi,h1,Option.bind_some,Option.bind_some,Int.toNat_natCast]
   cases o with
   | inl y=>rfl
   | inr u =>
    dsimp only at h2 ⊢
    rw [keys_eq h2,keysFault_eq h2]
  ·rw [if_neg h0,if_neg h0]
 ·rw [if_neg h,if_neg h]
theorem table_eq {t:GTable} (ok:TabOk t):∃ e,g_table_Check t=some e∧g_ref_TableFault t=some e∧(e=0→t.There=true∧0 < t.Cols.length∧(lrd t.Cols 0).Kind=2∧(lrd t.Cols 0).Null=false∧∀ i,i < 2→keysOk (vrd t.Drawers i)):=by
 unfold g_table_Check g_ref_TableFault
 by_cases h1:(!t.There)=true
 ·rw [if_pos h1,if_pos h1]; exact ⟨5,rfl,rfl,fun h=>absurd h (by decide)⟩
 ·rw [if_neg h1,if_neg h1,name_eq _ ok.name,isName_eq _ ok.name,Option.bind_some,Option.bind_some]
  unfold wrong
  by_cases h2:(t.Name.length:Int) > 8
  ·rw [if_pos h2,if_pos (show (1:Int)≠0 by decide),if_pos (.inr h2)]; exact ⟨3,rfl,rfl,fun h=>absurd h (by decide)⟩
  ·rw [if_neg h2]
   by_cases h3:isNm t.Name=true
   ·rw [if_pos h3,if_neg (show ¬ ((0:Int)≠0) by decide),if_neg (show ¬ ((!(isNm t.Name))=true∨(t.Name.length:Int) > 8) by rw [h3]; intro hh; rcases hh with hh | hh; exact absurd hh (by decide); exact h2 hh)]
    obtain ⟨e,h4,h5⟩:=cols_eq t.Cols ok.cols ok.names
    rw [h4,h5,Option.bind_some,Option.bind_some]
    by_cases h6:e≠0
    ·rw [if_pos h6,if_pos h6]; exact ⟨e,rfl,rfl,fun h=>absurd h h6⟩
    ·rw [if_neg h6,if_neg h6]
     have hg:∃ g:Bool,((if (t.Cols.length:Int)=(0:Int) then some true else if 0 < t.Cols.length then (if (lrd t.Cols 0).Kind≠(2:Int) then some true else if 0 < t.Cols.length then some ((lrd t.Cols 0).Null) else none) else none))=some g∧(g=false→0 < t.Cols.length∧(lrd t.Cols 0).Kind=2∧(lrd t.Cols 0).Null=false):=by
      by_cases h7:(t.Cols.length:Int)=0
      ·rw [if_pos h7]; exact ⟨true,rfl,fun h=>by cases h⟩
      ·have hp:0 < t.Cols.length:=by omega
       rw [if_neg h7,if_pos hp]
       by_cases h8:(lrd t.Cols 0).Kind≠2
       ·rw [if_pos h8]; exact ⟨true,rfl,fun h=>by cases h⟩
       ·rw [if_neg h8,if_pos hp]; exact ⟨_,rfl,fun h=>⟨hp,by omega,h⟩⟩
     obtain ⟨g,h7,h8⟩:=hg
     rw [h7,Option.bind_some,Option.bind_some]
     cases g with
     | true=>rw [if_pos rfl,if_pos rfl]; exact ⟨3,rfl,rfl,fun h=>absurd h (by decide)⟩
     | false =>
      obtain ⟨hpos,hk,hn⟩:=h8 rfl
      rw [if_neg (by decide),if_neg (by decide),← drawers_eq ok hpos hk hn]
      obtain ⟨o,h9,h10⟩:=loop_passes (step:=g_table_Check_l0 t) 2 (by decide) (fun k hk2=>by
       unfold g_table_Check_l0
       dsimp only
       obtain ⟨o,h11,h12⟩:=cells_loop ok hpos hk hn hk2
       rw [if_pos (by omega),if_pos (by omega),h11,Option.bind_some,Int.toNat_natCast]
       cases o with
       | inl y=>exact .inr ⟨y,h12,rfl⟩
       | inr u =>
        dsimp only at h12 ⊢
        rw [keys_eq h12,Option.bind_some]
        by_cases h13:(List.range 4).any (dupB (vrd t.Drawers k))=true
        ·rw [if_pos h13]; exact .inr ⟨8,by decide,rfl⟩
        ·rw [if_neg h13]; exact .inl rfl) (by
       unfold g_table_Check_l0
       dsimp only
       rw [if_neg (by decide)])
      rw [h9,Option.bind_some]
      cases o with
      | inl y=>exact ⟨y,rfl,rfl,fun h=>absurd h h10⟩
      | inr u =>
       refine ⟨0,rfl,rfl,fun _=>⟨by simpa using h1,hpos,hk,hn,fun i hi=>?_⟩⟩
       have h11:=h10 i hi
       obtain ⟨o,h12,h13⟩:=cells_loop ok hpos hk hn hi
       unfold g_table_Check_l0 at h11
       dsimp only at h11
       rw [if_pos (by omega),if_pos (by omega),h12,Option.bind_some] at h11
       cases o with
       | inl y=>cases h11
       | inr u=>exact h13
   ·rw [if_neg h3,if_pos (show (3:Int)≠0 by decide),if_pos (.inl (by rw [Bool.eq_false_iff.2 h3]; rfl))]; exact ⟨3,rfl,rfl,fun h=>absurd h (by decide)⟩
end Go.Proofs.YthnkbagmaljjjaaGreatDoor.VM

/- Words and rules that the proof uses. -/
namespace Go.Proofs.YthnkbagmaljjjaaGreatDoor.VM
open Go Go.RowKit
theorem same_loop {β:Type} {step:Int→Option (Int⊕β)} (n:Nat) (b:β) (hn:n < 9223372036854775807) (hs:∀ k,k < n→step (k:Int)=some (.inl (w64 ((k:Int)+1)))) (he:step (n:Int)=some (.inr b)):loopO step (0:Int)=some b:=by
 obtain ⟨r,h1,h2⟩:=loopO_times (step:=step) n (fun k (_:Unit)=>(k:Int)) (fun _ _=>True) (fun r=>r=b) (fun k _ hk _=>.inl ⟨(),by rw [hs k hk,w64_succ (by omega)],trivial⟩) (fun _ _=>⟨b,he,rfl⟩) (s:=()) trivial
 rw [← h2]
 exact h1
theorem sameColumns_refl (a:List GColumn) (h:a.length < 9223372036854775807):g_law_sameColumns a a=some true:=by
 unfold g_law_sameColumns
 rw [if_neg (fun q=>q rfl),same_loop (step:=g_law_sameColumns_l0 a a) a.length (.inr ()) h (fun k hk=>by
  unfold g_law_sameColumns_l0
  dsimp only
  rw [if_pos (natLt hk),if_pos (natIn hk),if_pos (natIn hk),if_neg (fun q=>q rfl)]) (by
  unfold g_law_sameColumns_l0
  dsimp only
  rw [if_neg natNlt])]
 rfl
theorem sameRow_refl (a:List GValue) (h:a.length < 9223372036854775807):g_law_sameRow a a=some true:=by
 unfold g_law_sameRow
 rw [if_neg (fun q=>q rfl),same_loop (step:=g_law_sameRow_l0 a a) a.length (.inr ()) h (fun k hk=>by
  unfold g_law_sameRow_l0
  dsimp only
  rw [if_pos (natLt hk),if_pos (natIn hk),if_pos (natIn hk),if_neg (fun q=>q rfl)]) (by
  unfold g_law_sameRow_l0
  dsimp only
  rw [if_neg natNlt])]
 rfl
theorem sameTable_refl (a:GTable) (h:a.Cols.length < 9223372036854775807) (hr:∀ i j,i < 2→j < 4→(vrd (vrd a.Drawers i) j).Row.length < 9223372036854775807):g_law_sameTable a a=some true:=by
 unfold g_law_sameTable
 rw [if_neg (fun q=>q rfl),if_neg (fun q=>q rfl),sameColumns_refl _ h,Option.bind_some,Option.bind_some,if_neg (by decide)]
 have hin:∀ i:Nat,i < 2→loopO (g_law_sameTable_l1 a a (i:Int)) (0:Int)=some (.inr ()):=by
  intro i hi
  refine same_loop (step:=g_law_sameTable_l1 a a (i:Int)) 4 (.inr ()) (by decide) (fun k hk=>?_) ?_
  ·unfold g_law_sameTable_l1
   dsimp only
   have h1:(0:Int)≤(i:Int)∧(i:Int) < 2:=by omega
   have h2:(0:Int)≤(k:Int)∧(k:Int) < 4:=by omega
   rw [if_pos h2.2,if_pos h1,if_pos h2,if_pos h1,if_pos h2,if_neg (fun q=>q rfl),Int.toNat_natCast,Int.toNat_natCast,sameRow_refl _ (hr i k hi hk),Option.bind_some,Option.bind_some,if_neg (by decide)]
  ·unfold g_law_sameTable_l1
   dsimp only
   rw [if_neg (by decide)]
 rw [same_loop (step:=g_law_sameTable_l0 a a) 2 (.inr ()) (by decide) (fun k hk=>by
  unfold g_law_sameTable_l0
  dsimp only
  rw [if_pos (by omega),hin k hk]
  rfl) (by
  unfold g_law_sameTable_l0
  dsimp only
  rw [if_neg (by decide)])]
 rfl
theorem vrd_rep {α:Type} [Inhabited α] {n:Nat} {x:α} {j:Nat} (h:j < n):vrd (Vector.replicate n x) j=x:=by
 rw [vrd_at h,Vector.getElem_replicate]
theorem sameTable_zero:g_law_sameTable GTable.zero GTable.zero=some true:=by
 refine sameTable_refl GTable.zero (by decide) (fun i j hi hj=>?_)
 show (vrd (vrd (Vector.replicate 2 (Vector.replicate 4 GCell.zero)) i) j).Row.length < _
 rw [vrd_rep hi,vrd_rep hj]
 decide
end Go.Proofs.YthnkbagmaljjjaaGreatDoor.VM

/- Words and rules that the proof uses. -/
namespace Go.Proofs.YthnkbagmaljjjaaGreatDoor.VM
open Go Go.RowKit
structure TabLen (t:GTable):Prop where
 cols:t.Cols.length * 32≤140737488355328
 rows:∀ i j,i < 2→j < 4→(vrd (vrd t.Drawers i) j).Row.length * 40≤140737488355328
theorem tab_len {t:GTable} (q:GTable.ok t):TabLen t:=by
 refine ⟨Nat.le_trans q.2.2.1.1 (by decide),fun i j hi hj=>?_⟩
 exact Nat.le_trans (q.2.2.2 (vrd t.Drawers i) (vrd_mem hi) (vrd (vrd t.Drawers i) j) (vrd_mem hj)).2.1 (by decide)
theorem vwr_self {α:Type} [Inhabited α] {n:Nat} {v:Vector α n} {j:Nat} (h:j < n):vwr v j (vrd v j)=v:=by
 refine vec_eq_of fun i hi=>?_
 by_cases e:i=j
 ·rw [e,vrd_vwr_eq h]
 ·rw [vrd_vwr_ne hi e]
theorem row_copy {r:List GValue} (h:r.length * 40≤140737488355328):g_table_row r=some r:=by
 unfold g_table_row
 rw [if_pos (show room _ _ by simp only [room,List.length_nil]; omega),List.nil_append]
theorem fresh_eq {t:GTable} (h:TabLen t):g_table_fresh t=some t:=by
 have hin:∀ i:Nat,i < 2→loopO (g_table_fresh_l1 (i:Int)) ((0:Int),t)=some t:=by
  intro i hi
  obtain ⟨r,h1,h2⟩:=loopO_times (step:=g_table_fresh_l1 (i:Int)) 4 (fun k (s:GTable)=>((k:Int),s)) (fun _ s=>s=t) (fun r=>r=t) (fun k s hk hs=>by
   subst hs
   left
   refine ⟨s,?_,rfl⟩
   unfold g_table_fresh_l1
   dsimp only
   rw [if_pos (by omega),if_pos (by omega),if_pos (by omega),Int.toNat_natCast,Int.toNat_natCast,row_copy (h.rows i k hi hk),Option.bind_some,letO_eq,w64_succ (by omega)]
   have e1:({ (vrd (vrd s.Drawers i) k) with Row:=(vrd (vrd s.Drawers i) k).Row }:GCell)=vrd (vrd s.Drawers i) k:=rfl
   rw [e1,vwr_self (v:=vrd s.Drawers i) hk,vwr_self hi]) (fun s hs=>⟨t,by
   subst hs
   unfold g_table_fresh_l1
   dsimp only
   rw [if_neg (by decide)],rfl⟩) (s:=t) rfl
  have h1':loopO (g_table_fresh_l1 (i:Int)) ((0:Int),t)=some r:=h1
  rw [h1',h2]
 obtain ⟨r,h1,h2⟩:=loopO_times (step:=g_table_fresh_l0) 2 (fun k (s:GTable)=>((k:Int),s)) (fun _ s=>s=t) (fun r=>r=t) (fun k s hk hs=>by
  subst hs
  left
  refine ⟨s,?_,rfl⟩
  unfold g_table_fresh_l0
  dsimp only
  rw [if_pos (by omega),hin k hk,Option.bind_some,w64_succ (by omega)]) (fun s hs=>⟨t,by
  subst hs
  unfold g_table_fresh_l0
  dsimp only
  rw [if_neg (by decide)],rfl⟩) (s:=t) rfl
 have h1':loopO g_table_fresh_l0 ((0:Int),t)=some r:=h1
 unfold g_table_fresh
 have e:({ t with Cols:=([]:List GColumn)++t.Cols }:GTable)=t:=rfl
 have hc:=h.cols
 rw [if_pos (show room _ _ by simp only [room,List.length_nil]; omega),e,h1',h2]
 rfl
theorem put_rows {D:Vector (Vector GCell 4) 2} {b f:Nat} {c:GCell} {m:Nat} (h:∀ i j,i < 2→j < 4→(vrd (vrd D i) j).Row.length < m) (hc:c.Row.length < m):∀ i j,i < 2→j < 4→(vrd (vrd (vwr D b (vwr (vrd D b) f c)) i) j).Row.length < m:=by
 intro i j hi hj
 by_cases hib:i=b
 ·subst hib
  rw [vrd_vwr_eq hi]
  by_cases hjf:j=f
  ·subst hjf
   rw [vrd_vwr_eq hj]
   exact hc
  ·rw [vrd_vwr_ne hj hjf]
   exact h i j hi hj
 ·rw [vrd_vwr_ne hi hib]
  exact h i j hi hj
end Go.Proofs.YthnkbagmaljjjaaGreatDoor.VM

/- Words and rules that the proof uses. -/
namespace Go.Proofs.YthnkbagmaljjjaaGreatDoor.VM
open Go Go.RowKit
theorem colm (cols:List GColumn) (n:List UInt8) (hl:cols.length < 9223372036854775807):∃ r,loopO (g_table_column_l0 cols n) (0:Int)=some r∧((∃ i:Nat,i < cols.length∧(lrd cols i).Name=n∧r=.inl (i:Int))∨((∀ i,i < cols.length→(lrd cols i).Name≠n)∧r=.inr ())):=by
 refine loopO_times (step:=g_table_column_l0 cols n) cols.length (fun k (_:Unit)=>(k:Int)) (fun k _=>∀ i,i < k→(lrd cols i).Name≠n) _ (fun k _ hk hi=>?_) (fun _ hi=>?_) (s:=()) (fun i hi=>by omega)
 ·unfold g_table_column_l0
  dsimp only
  rw [if_pos (natLt hk),if_pos (natIn hk),Int.toNat_natCast]
  by_cases h:(lrd cols k).Name=n
  ·right
   exact ⟨.inl (k:Int),by rw [if_pos h],.inl ⟨k,hk,h,rfl⟩⟩
  ·left
   refine ⟨(),by rw [if_neg h,w64_succ (by omega)],fun i hik=>?_⟩
   rcases Nat.lt_or_ge i k with h4 | h4
   ·exact hi i h4
   ·rw [show i=k by omega]; exact h
 ·unfold g_table_column_l0
  dsimp only
  rw [if_neg natNlt]
  exact ⟨_,rfl,.inr ⟨hi,rfl⟩⟩
theorem col_both {cols:List GColumn} (n:List UInt8) (hl:cols.length < 9223372036854775807) (hf:colsFine cols):(∃ i:Nat,i < cols.length∧g_table_column cols n=some (i:Int)∧g_ref_columnAt cols n=some (i:Int))∨(g_table_column cols n=some (-1)∧g_ref_columnAt cols n=some (-1)):=by
 obtain ⟨r,h3,h4⟩:=colm cols n hl
 unfold g_table_column
 rw [h3,Option.bind_some]
 rcases colAt cols n hl with ⟨i,hi,hni,hc⟩ | ⟨hno,hc⟩
 ·rcases h4 with ⟨j,hj,hnj,rfl⟩ | ⟨hno,_⟩
  ·have hij:j=i:=hf.once j i hj hi (hnj.trans hni.symm)
   subst hij
   exact .inl ⟨j,hj,rfl,hc⟩
  ·exact absurd hni (hno i hi)
 ·rcases h4 with ⟨j,hj,hnj,_⟩ | ⟨_,rfl⟩
  ·exact absurd hnj (hno j hj)
  ·exact .inr ⟨rfl,hc⟩
def SetOk (cols:List GColumn) (s:GSet):Prop:=∃ i:Nat,i < cols.length∧g_table_column cols s.Col=some (i:Int)∧g_ref_columnAt cols s.Col=some (i:Int)∧g_expr_Check s.Expr=some 0∧∃ so,g_kinds_of 100000 s.Expr cols=some (so,0)∧(so.kind_=0∨so.kind_=(lrd cols i).Kind)
theorem find8 {step:Int→Option (Int⊕(Int⊕Unit))} (N:List (List UInt8)) (c:List UInt8) (hn:N.length < 9223372036854775807) (hs:∀ j,j < N.length→step (j:Int)=if lrd N j=c then some (.inr (.inl 8)) else some (.inl (w64 ((j:Int)+1)))) (he:step (N.length:Int)=some (.inr (.inr ()))):loopO step (0:Int)=some (if c∈N then .inl 8 else .inr ()):=by
 obtain ⟨r,h1,h2⟩:=loopO_times (step:=step) N.length (fun k (_:Unit)=>(k:Int)) (fun k _=>∀ j,j < k→lrd N j≠c) (fun r=>r=if c∈N then .inl 8 else .inr ()) (fun k _ hk hi=>by
  rw [hs k hk]
  by_cases h:lrd N k=c
  ·right
   refine ⟨_,if_pos h,?_⟩
   rw [if_pos (by rw [← h]; exact lrd_mem hk)]
  ·left
   refine ⟨(),by rw [if_neg h,w64_succ (by omega)],fun j hj=>?_⟩
   rcases Nat.lt_or_ge j k with h4 | h4
   ·exact hi j h4
   ·rw [show j=k by omega]; exact h) (fun _ hi=>⟨_,he,by
  rw [if_neg]
  intro hm
  obtain ⟨j,hj,e⟩:=List.getElem_of_mem hm
  exact hi j hj (by rw [lrd_at hj]; exact e)⟩) (s:=()) (fun j hj=>by omega)
 have h1':loopO step (0:Int)=some r:=h1
 rw [h1',h2]
theorem lrd_map {α β:Type} [Inhabited α] [Inhabited β] (f:α→β) {l:List α} {j:Nat} (h:j < l.length):lrd (l.map f) j=f (lrd l j):=by
 rw [lrd_at (by rw [List.length_map]; exact h),lrd_at h,List.getElem_map]
theorem sets_eq {l:List GSet} {cols:List GColumn} (hl:cols.length < 9223372036854775807) (hc:∀ c∈cols,c.Name.length < 9223372036854775807) (hf:colsFine cols) (hq:∀ s∈l,GExpr.ok s.Expr):∃ x,g_table_sets l cols=some x∧g_ref_setsFault l cols=some x∧(x=0→∀ j,j < l.length→SetOk cols (lrd l j)):=by
 unfold g_table_sets g_ref_setsFault
 by_cases h0:((l.length:Int) < 1)∨((l.length:Int) > 4)
 ·rw [if_pos h0,if_pos (by omega)]
  exact ⟨_,rfl,rfl,fun q=>absurd q (by decide)⟩
 rw [if_neg h0,if_neg (by omega)]
 obtain ⟨r,r',h1,h2,rfl,h4⟩:=loopO_rel (step:=g_table_sets_l0 l cols) (step2:=g_ref_setsFault_l0 l cols) (fun a c=>∃ k:Nat,k≤l.length∧a=(k:Int)∧c=((k:Int),(l.take k).map fun s=>s.Col)∧∀ j,j < k→SetOk cols (lrd l j))
  (fun r q=>r=q∧match r with | .inl y=>y≠0 | .inr _=>∀ j,j < l.length→SetOk cols (lrd l j)) (fun a=>l.length - a.toNat) (fun a c hac=>by
   obtain ⟨k,hk,rfl,rfl,hok⟩:=hac
   unfold g_table_sets_l0 g_ref_setsFault_l0
   dsimp only
   by_cases hlt:k < l.length
   ·rw [if_pos (natLt hlt),if_pos (natLt hlt),if_pos (natIn hlt),if_pos (natIn hlt),Int.toNat_natCast]
    have hlen:((l.take k).map fun s=>s.Col).length=k:=by rw [List.length_map,List.length_take]; omega
    have hcut:cut l 0 (k:Int)=l.take k:=by simp only [cut,Int.toNat_zero,Int.toNat_natCast,List.drop_zero,Nat.sub_zero]
    have p1:loopO (g_table_sets_l1 l (k:Int)) (0:Int)=some (if (lrd l k).Col∈(l.take k).map (fun s=>s.Col) then .inl 8 else .inr ()):=find8 _ _ (by rw [hlen]; omega) (fun j hj=>by
     rw [hlen] at hj
     have hj2:j < (l.take k).length:=by rw [List.length_take]; omega
     unfold g_table_sets_l1
     dsimp only
     rw [hcut,if_pos (natLt hj2),if_pos (natIn hj2),Int.toNat_natCast,Int.toNat_natCast,lrd_map _ hj2]) (by
     unfold g_table_sets_l1
     dsimp only
     rw [hcut,List.length_map,if_neg natNlt])
    have p2:loopO (g_ref_setsFault_l1 l (k:Int) ((l.take k).map fun s=>s.Col)) (0:Int)=some (if (lrd l k).Col∈(l.take k).map (fun s=>s.Col) then .inl 8 else .inr ()):=find8 _ _ (by rw [hlen]; omega) (fun j hj=>by
     unfold g_ref_setsFault_l1
     dsimp only
     rw [if_pos (natLt hj),if_pos (natIn hj),Int.toNat_natCast,Int.toNat_natCast]) (by
     unfold g_ref_setsFault_l1
     dsimp only
     rw [if_neg natNlt])
    rcases col_both (lrd l k).Col hl hf with ⟨i,hi,c1,c2⟩ | ⟨c1,c2⟩
    ·rw [c1,c2,Option.bind_some,Option.bind_some,if_neg (show ¬ (i:Int) < 0 by omega),if_neg (show ¬ (i:Int) < 0 by omega),if_pos (show (0:Int)≤(k:Int)∧(k:Int)≤(l.length:Int) by omega),p1,p2,Option.bind_some,Option.bind_some]
     by_cases hm:(lrd l k).Col∈(l.take k).map (fun s=>s.Col)
     ·rw [if_pos hm]
      exact .inr ⟨_,_,rfl,rfl,rfl,(by decide:(8:Int)≠0)⟩
     ·rw [if_neg hm]
      dsimp only
      obtain ⟨r,k1,k2,_⟩:=of_eq (hq _ (lrd_mem hlt)) hl hc
      rw [if_pos (show room _ _ by rw [hlen]; simp only [room,List.length_cons,List.length_nil]; omega),k1,k2,Option.bind_some,Option.bind_some]
      by_cases he:r.2.2≠0
      ·rw [if_pos he,if_pos he]
       exact .inr ⟨_,_,rfl,rfl,rfl,he⟩
      ·rw [if_neg he,if_neg he]
       obtain ⟨kd,nl,er⟩:=r
       dsimp only at he k1 ⊢
       rw [Classical.not_not.1 he] at k1
       obtain ⟨d1,_,so,d3,d4⟩:=of_in k1
       have hin:(0:Int)≤(i:Int)∧(i:Int) < (cols.length:Int):=by omega
       have fin:(kd=0∨kd=(lrd cols i).Kind)→∀ j,j < k+1→SetOk cols (lrd l j):=fun hkd j hj=>by
        rcases Nat.lt_or_ge j k with h4 | h4
        ·exact hok j h4
        ·rw [show j=k by omega]
         exact ⟨i,hi,c1,c2,d1,so,d3,by rw [d4]; exact hkd⟩
       have htk:(l.take k).map (fun s=>s.Col)++[(lrd l k).Col]=(l.take (k+1)).map fun s=>s.Col:=by
        rw [take_step hlt,List.map_append]; rfl
       by_cases hk0:kd≠0
       ·rw [if_pos hk0,if_pos hin,Int.toNat_natCast]
        simp only [Option.bind_some]
        by_cases hkd:kd≠(lrd cols i).Kind
        ·rw [if_pos (decide_eq_true hkd)]
         exact .inr ⟨.inl 2,_,rfl,if_pos (decide_eq_true hkd),rfl,(by decide:(2:Int)≠0)⟩
        ·rw [if_neg (by rw [decide_eq_false hkd]; decide),if_neg (by rw [decide_eq_false hkd]; decide),w64_succ (by omega)]
         exact .inl ⟨_,_,rfl,rfl,⟨k+1,by omega,rfl,by rw [htk],fin (.inr (Classical.not_not.1 hkd))⟩,by omega⟩
       ·rw [if_neg hk0,Option.bind_some,if_neg (by decide),w64_succ (by omega)]
        exact .inl ⟨_,_,rfl,rfl,⟨k+1,by omega,rfl,by rw [htk],fin (.inl (Classical.not_not.1 hk0))⟩,by omega⟩
    ·rw [c1,c2,Option.bind_some,Option.bind_some,if_pos (by decide),if_pos (by decide)]
     exact .inr ⟨_,_,rfl,rfl,rfl,(by decide:(5:Int)≠0)⟩
   ·have:k=l.length:=by omega
    subst this
    rw [if_neg natNlt,if_neg natNlt]
    exact .inr ⟨_,_,rfl,rfl,rfl,hok⟩) (a:=(0:Int)) (c:=((0:Int),([]:List (List UInt8)))) ⟨0,by omega,rfl,rfl,fun j hj=>by omega⟩
 rw [h1,h2]
 cases r with
 | inl y=>exact ⟨y,rfl,rfl,fun q=>absurd q h4⟩
 | inr y=>exact ⟨0,rfl,rfl,fun _=>h4⟩
def fU (nul:Nat→Bool) (F:Nat→GValue×Int) (A:Nat→Nat) (row:List GValue):Nat→Int×List GValue
 | 0=>(0,row)
 | k+1=>(if (fU nul F A row k).1=0 then (if (F k).2=0∧(F k).1.Kind=0∧nul (A k)=false then 12 else (F k).2) else (fU nul F A row k).1,(fU nul F A row k).2.set (A k) (F k).1)
theorem fU_len {nul:Nat→Bool} {F:Nat→GValue×Int} {A:Nat→Nat} {row:List GValue}:∀ k,(fU nul F A row k).2.length=row.length
 | 0=>rfl
 | k+1=>by
  unfold fU
  rw [List.length_set]
  exact fU_len k
theorem fU_stay {nul:Nat→Bool} {F:Nat→GValue×Int} {A:Nat→Nat} {row:List GValue} {k:Nat} (h:(fU nul F A row k).1≠0):∀ m,(fU nul F A row (k+m)).1=(fU nul F A row k).1
 | 0=>rfl
 | m+1=>by
  have e:(fU nul F A row (k+(m+1))).1=if (fU nul F A row (k+m)).1=0 then (if (F (k+m)).2=0∧(F (k+m)).1.Kind=0∧nul (A (k+m))=false then 12 else (F (k+m)).2) else (fU nul F A row (k+m)).1:=rfl
  rw [e,fU_stay h m,if_neg h]
def good0 (r:List GValue):Prop:=0 < r.length∧(lrd r 0).Kind=2∧(lrd r 0).Bits=0∧(lrd r 0).Text=[]
structure SetAt (cols:List GColumn) (row:List GValue) (s:GSet) (v:GValue×Int) (i:Nat):Prop where
 lt:i < cols.length
 col:g_table_column cols s.Col=some (i:Int)
 colR:g_ref_columnAt cols s.Col=some (i:Int)
 ev:g_eval_Eval s.Expr cols row=some v
 evR:g_ref_valued 100000 s.Expr cols row=some v
 can:v.2=0→CanV v.1
 kind:v.1.Kind=0∨v.1.Kind=(lrd cols i).Kind
theorem set_at {cols:List GColumn} {row:List GValue} {s:GSet} (q:GExpr.ok s.Expr) (hl:cols.length < 9223372036854775807) (hc:∀ c∈cols,c.Name.length < 9223372036854775807) (hrl:row.length < 9223372036854775807) (hr:∀ v∈row,okI v.Int_) (h3:g_kinds_Row row cols=some 0) (h:SetOk cols s):∃ v i,SetAt cols row s v i:=by
 obtain ⟨i,hi,c1,c2,c3,so,c4,c5⟩:=h
 obtain ⟨r,e1,e2,⟨G,e3⟩,e4⟩:=eval_val q hl hc hrl hr c3 h3
 have:=e4 so c4
 exact ⟨r,i,hi,c1,c2,e1,e2,e3.can,by omega⟩
theorem changed_ref {cols:List GColumn} {row:List GValue} {l:List GSet} {F:Nat→GValue×Int} {A:Nat→Nat} (hlen:row.length=cols.length) (hl4:l.length < 9223372036854775807) (hA:∀ k,k < l.length→SetAt cols row (lrd l k) (F k) (A k)) {t:GTable} {b i:Nat} (ht:t.Cols=cols) (hrow:(vrd (vrd t.Drawers b) i).Row=row):loopO (g_ref_Updated_l1 (b:Int) l (i:Int) t) ((0:Int),(0:Int),row)=some (fU (fun j=>(lrd cols j).Null) F A row l.length):=by
 obtain ⟨r,h1,h2⟩:=loopO_times (step:=g_ref_Updated_l1 (b:Int) l (i:Int) t) l.length (fun k (s:Int×List GValue)=>(s.1,(k:Int),s.2)) (fun k s=>s=fU (fun j=>(lrd cols j).Null) F A row k) (fun r=>r=fU (fun j=>(lrd cols j).Null) F A row l.length) (fun k s hk hs=>by
  subst hs
  left
  have a:=hA k hk
  have hsl:=fU_len (nul:=fun j=>(lrd cols j).Null) (F:=F) (A:=A) (row:=row) k
  refine ⟨fU (fun j=>(lrd cols j).Null) F A row (k+1),?_,rfl⟩
  rw [fU]
  generalize fU (fun j=>(lrd cols j).Null) F A row k=s at *
  obtain ⟨e,nx⟩:=s
  unfold g_ref_Updated_l1
  dsimp only at hsl ⊢
  have hin:(0:Int)≤(A k:Int)∧(A k:Int) < (cols.length:Int):=by have:=a.lt; omega
  have hin2:(0:Int)≤(A k:Int)∧(A k:Int) < (nx.length:Int):=by have:=a.lt; omega
  rw [if_pos (natLt hk),if_pos (natIn hk),Int.toNat_natCast,Int.toNat_natCast,Int.toNat_natCast,ht,hrow,a.evR,Option.bind_some,a.colR,Option.bind_some,w64_succ (by omega)]
  by_cases he:e=0
  ·rw [if_pos he,if_pos he]
   by_cases hv:(F k).2=0
   ·rw [if_pos hv]
    by_cases hk0:(F k).1.Kind=0
    ·rw [if_pos hk0,if_pos hin,Int.toNat_natCast,Option.bind_some]
     cases hn:(lrd cols (A k)).Null with
     | true=>rw [if_neg (by decide),if_neg (fun q=>by cases q.2.2),Option.bind_some,if_pos he,Option.bind_some,if_pos hin2]
     | false=>rw [if_pos (by decide),if_pos ⟨hv,hk0,rfl⟩,Option.bind_some,if_pos he,Option.bind_some,if_pos hin2]
    ·rw [if_neg hk0,Option.bind_some,if_neg (by decide),if_neg (fun q=>hk0 q.2.1),Option.bind_some,if_pos he,Option.bind_some,if_pos hin2,Int.toNat_natCast]
   ·rw [if_neg hv,Option.bind_some,if_neg (by decide),if_neg (fun q=>hv q.1),Option.bind_some,if_pos he,Option.bind_some,if_pos hin2,Int.toNat_natCast]
  ·rw [if_neg he,if_neg he,Option.bind_some,if_neg (by decide),Option.bind_some,if_neg he,Option.bind_some,if_pos hin2,Int.toNat_natCast]) (fun s hs=>⟨s,by
  unfold g_ref_Updated_l1
  dsimp only
  rw [if_neg natNlt],hs⟩) (s:=((0:Int),row)) rfl
 have h1':loopO (g_ref_Updated_l1 (b:Int) l (i:Int) t) ((0:Int),(0:Int),row)=some r:=h1
 rw [h1',h2]
theorem changed_prog {cols:List GColumn} {row:List GValue} {l:List GSet} {F:Nat→GValue×Int} {A:Nat→Nat} (hlen:row.length=cols.length) (hl4:l.length < 9223372036854775807) (hrl:row.length * 40≤140737488355328) (hA:∀ k,k < l.length→SetAt cols row (lrd l k) (F k) (A k)):g_table_changed row cols l=some (if (fU (fun j=>(lrd cols j).Null) F A row l.length).1=0 then ((fU (fun j=>(lrd cols j).Null) F A row l.length).2,0) else ([],(fU (fun j=>(lrd cols j).Null) F A row l.length).1)):=by
 obtain ⟨r,h1,h2⟩:=loopO_times (step:=g_table_changed_l0 row cols l) l.length (fun k (s:List GValue)=>((k:Int),s)) (fun k s=>s=(fU (fun j=>(lrd cols j).Null) F A row k).2∧(fU (fun j=>(lrd cols j).Null) F A row k).1=0)
  (fun r=>r=if (fU (fun j=>(lrd cols j).Null) F A row l.length).1=0 then .inr (fU (fun j=>(lrd cols j).Null) F A row l.length).2 else .inl ([],(fU (fun j=>(lrd cols j).Null) F A row l.length).1)) (fun k s hk hs=>by
  obtain ⟨rfl,hz⟩:=hs
  have a:=hA k hk
  have hsl:=fU_len (nul:=fun j=>(lrd cols j).Null) (F:=F) (A:=A) (row:=row) k
  have hnext:fU (fun j=>(lrd cols j).Null) F A row (k+1)=(if (F k).2=0∧(F k).1.Kind=0∧(lrd cols (A k)).Null=false then 12 else (F k).2,(fU (fun j=>(lrd cols j).Null) F A row k).2.set (A k) (F k).1):=by
   rw [fU,if_pos hz]
  have bad:∀ e:Int,e≠0→(if (F k).2=0∧(F k).1.Kind=0∧(lrd cols (A k)).Null=false then 12 else (F k).2)=e→(.inl (([]:List GValue),e):(List GValue×Int)⊕List GValue)=if (fU (fun j=>(lrd cols j).Null) F A row l.length).1=0 then .inr (fU (fun j=>(lrd cols j).Null) F A row l.length).2 else .inl ([],(fU (fun j=>(lrd cols j).Null) F A row l.length).1):=fun e he h=>by
   have h0:(fU (fun j=>(lrd cols j).Null) F A row (k+1)).1=e:=by rw [hnext]; exact h
   have h5:=fU_stay (by rw [h0]; exact he) (l.length - (k+1)) (nul:=fun j=>(lrd cols j).Null) (F:=F) (A:=A) (row:=row) (k:=k+1)
   rw [show k+1+(l.length - (k+1))=l.length by omega,h0] at h5
   rw [h5,if_neg he]
  unfold g_table_changed_l0
  dsimp only
  have hin:(0:Int)≤(A k:Int)∧(A k:Int) < (cols.length:Int):=by have:=a.lt; omega
  have hin2:(0:Int)≤(A k:Int)∧(A k:Int) < ((fU (fun j=>(lrd cols j).Null) F A row k).2.length:Int):=by have:=a.lt; omega
  rw [if_pos (natLt hk),if_pos (natIn hk),Int.toNat_natCast,a.ev,Option.bind_some]
  by_cases hv:(F k).2≠0
  ·rw [if_pos hv]
   exact .inr ⟨_,rfl,bad _ hv (if_neg (fun q=>hv q.1))⟩
  ·rw [if_neg hv,a.col,Option.bind_some]
   have hv0:=Classical.not_not.1 hv
   have go:(if (F k).2=0∧(F k).1.Kind=0∧(lrd cols (A k)).Null=false then (12:Int) else (F k).2)=0→(∃ s',(if 0≤(A k:Int)∧(A k:Int) < ((fU (fun j=>(lrd cols j).Null) F A row k).2.length:Int) then (some (.inl (w64 ((k:Int)+1),(fU (fun j=>(lrd cols j).Null) F A row k).2.set (A k:Int).toNat (F k).1)):Option ((Int×List GValue)⊕((List GValue×Int)⊕List GValue))) else none)=some (.inl (((k+1:Nat):Int),s'))∧s'=(fU (fun j=>(lrd cols j).Null) F A row (k+1)).2∧(fU (fun j=>(lrd cols j).Null) F A row (k+1)).1=0):=fun h0 =>
    ⟨_,by rw [if_pos hin2,w64_succ (by omega),Int.toNat_natCast],by rw [hnext],by rw [hnext]; exact h0⟩
   by_cases hk0:(F k).1.Kind=0
   ·rw [if_pos hk0,if_pos hin,Option.bind_some,Int.toNat_natCast]
    cases hn:(lrd cols (A k)).Null with
    | true =>
     rw [if_neg (by decide)]
     exact .inl (go (by rw [if_neg (fun q=>by rw [hn] at q; cases q.2.2)]; exact hv0))
    | false =>
     rw [if_pos (by decide)]
     exact .inr ⟨_,rfl,bad 12 (by decide) (if_pos ⟨hv0,hk0,hn⟩)⟩
   ·rw [if_neg hk0,Option.bind_some,if_neg (by decide)]
    exact .inl (go (by rw [if_neg (fun q=>hk0 q.2.1)]; exact hv0))) (fun s hs=>by
  obtain ⟨rfl,hz⟩:=hs
  refine ⟨.inr (fU (fun j=>(lrd cols j).Null) F A row l.length).2,?_,(if_pos hz).symm⟩
  unfold g_table_changed_l0
  dsimp only
  rw [if_neg natNlt]) (s:=row) ⟨rfl,rfl⟩
 have h1':loopO (g_table_changed_l0 row cols l) ((0:Int),row)=some r:=h1
 unfold g_table_changed
 rw [row_copy hrl,Option.bind_some,h1',h2,Option.bind_some]
 by_cases hz:(fU (fun j=>(lrd cols j).Null) F A row l.length).1=0
 ·rw [if_pos hz,if_pos hz]
 ·rw [if_neg hz,if_neg hz]
theorem fU_good {cols:List GColumn} {row:List GValue} {l:List GSet} {F:Nat→GValue×Int} {A:Nat→Nat} (hA:∀ k,k < l.length→SetAt cols row (lrd l k) (F k) (A k)) (hg:good0 row) (hk:(lrd cols 0).Kind=2) (hn:(lrd cols 0).Null=false):∀ k,k≤l.length→(fU (fun j=>(lrd cols j).Null) F A row k).1=0→good0 (fU (fun j=>(lrd cols j).Null) F A row k).2
 | 0,_,_=>hg
 | k+1,hkl,h=>by
  have a:=hA k (by omega)
  unfold fU at h ⊢
  dsimp only at h ⊢
  by_cases hz:(fU (fun j=>(lrd cols j).Null) F A row k).1=0
  ·rw [if_pos hz] at h
   have ih:=fU_good hA hg hk hn k (by omega) hz
   refine ⟨by rw [List.length_set]; exact ih.1,?_⟩
   rw [lrd_set ih.1]
   by_cases h0:A k=0
   ·rw [if_pos h0]
    rw [h0] at h
    have kd:=a.kind
    rw [h0,hk] at kd
    by_cases hk0:(F k).1.Kind=0
    ·by_cases hv:(F k).2=0
     ·rw [if_pos ⟨hv,hk0,hn⟩] at h
      exact absurd h (by decide)
     ·rw [if_neg (fun q=>hv q.1)] at h
      exact absurd h hv
    ·have hv:(F k).2=0:=by
      rw [if_neg (fun q=>hk0 q.2.1)] at h
      exact h
     obtain ⟨n,hn2,_⟩:=kind_two (a.can hv) (fun q=>q.2 (by omega)) hk0
     rw [hn2]
     exact ⟨rfl,rfl,rfl⟩
   ·rw [if_neg h0]
    exact ih.2
  ·rw [if_neg hz] at h
   exact absurd h hz
end Go.Proofs.YthnkbagmaljjjaaGreatDoor.VM

/- Words and rules that the proof uses. -/
namespace Go.Proofs.YthnkbagmaljjjaaGreatDoor.VM
open Go Go.RowKit
structure MidU (t s:GTable) (b k:Nat):Prop where
 cols:s.Cols=t.Cols
 rest:∀ j,k≤j→j < 4→vrd (vrd s.Drawers b) j=vrd (vrd t.Drawers b) j
 keys:keysOk (vrd s.Drawers b)
 rows:∀ i j,i < 2→j < 4→(vrd (vrd s.Drawers i) j).Row.length < 9223372036854775807
theorem MidU.next {t s:GTable} {b k:Nat} (h:MidU t s b k):MidU t s b (k+1):=⟨h.cols,fun j hj h4=>h.rest j (by omega) h4,h.keys,h.rows⟩
theorem MidU.put {t s:GTable} {b k:Nat} (hb:b < 2) (hk:k < 4) (h:MidU t s b k) {c:GCell} (hc:c.Row.length < 9223372036854775807) (hg:good0 c.Row):MidU t { s with Drawers:=(vwr s.Drawers b (vwr (vrd s.Drawers b) k c)) } b (k+1):=by
 have e:vrd (vwr s.Drawers b (vwr (vrd s.Drawers b) k c)) b=vwr (vrd s.Drawers b) k c:=vrd_vwr_eq hb
 refine ⟨h.cols,fun j hj h4=>?_,fun i hi hf=>?_,put_rows h.rows hc⟩
 ·show vrd (vrd (vwr s.Drawers b (vwr (vrd s.Drawers b) k c)) b) j=_
  rw [e,vrd_vwr_ne h4 (by omega)]
  exact h.rest j (by omega) h4
 ·dsimp only at hf ⊢
  rw [e] at hf ⊢
  by_cases hik:i=k
  ·subst hik
   rw [vrd_vwr_eq hi]
   exact hg
  ·unfold fullAt at hf
   rw [vrd_vwr_ne hi hik] at hf ⊢
   exact h.keys i hi hf
abbrev EndU (t:GTable) (b:Nat) (r:(GTable×Int×Int)⊕(Int×GTable)) (q:Int×Int×GTable):Prop:=(∃ e y,e≠0∧r=.inl (GTable.zero,0,e)∧q=(e,y))∨∃ n s,r=.inr (n,s)∧q=(0,n,s)∧s.Cols=t.Cols∧keysOk (vrd s.Drawers b)∧∀ i j,i < 2→j < 4→(vrd (vrd s.Drawers i) j).Row.length < 9223372036854775807
theorem upd_stop {d:Int} {wh:GExpr} {l:List GSet} {e n k:Int} {s:GTable} (he:e≠0):loopO (g_ref_Updated_l0 d wh l) (e,n,k,s)=some (e,n,s):=by
 refine loopO_done ?_
 unfold g_ref_Updated_l0
 dsimp only
 rw [if_neg (fun q=>he q.2)]
theorem upd_loop {t:GTable} (ok:TabOk t) (len:TabLen t) {wh:GExpr} (q:GExpr.ok wh) {l:List GSet} (hl4:l.length < 9223372036854775807) (hq:∀ s∈l,GExpr.ok s.Expr) (hs:∀ j,j < l.length→SetOk t.Cols (lrd l j)) (hk2:(lrd t.Cols 0).Kind=2) (hn0:(lrd t.Cols 0).Null=false) {b:Nat} (hb:b < 2) (H0:keysOk (vrd t.Drawers b)):∀ (m k:Nat) (n:Int) (s:GTable),m+k=4→MidU t s b k→∃ r z,loopO (g_table_Update_l0 (b:Int) wh l) (n,(k:Int),s)=some r∧loopO (g_ref_Updated_l0 (b:Int) wh l) ((0:Int),n,(k:Int),s)=some z∧EndU t b r z
 | 0,k,n,s,hmk,hm=>by
  obtain rfl:k=4:=by omega
  refine ⟨.inr (n,s),(0,n,s),loopO_done ?_,loopO_done ?_,.inr ⟨n,s,rfl,rfl,hm.cols,hm.keys,hm.rows⟩⟩
  ·unfold g_table_Update_l0
   dsimp only
   rw [if_neg (by decide)]
  ·unfold g_ref_Updated_l0
   dsimp only
   rw [if_neg (fun q=>absurd q.1 (by decide))]
 | m+1,k,n,s,hmk,hm=>by
  have hk:k < 4:=by omega
  have hkI:(0:Int)≤(k:Int)∧(k:Int) < 4:=by omega
  have hbI:(0:Int)≤(b:Int)∧(b:Int) < 2:=by omega
  obtain ⟨th,nm,cs,dr⟩:=s
  have hcols:cs=t.Cols:=hm.cols
  subst hcols
  have hrest:vrd (vrd dr b) k=vrd (vrd t.Drawers b) k:=hm.rest k (Nat.le_refl k) hk
  have P:g_table_Update_l0 (b:Int) wh l (n,(k:Int),⟨th,nm,t.Cols,dr⟩)=(g_table_Update_l0 (b:Int) wh l (n,(k:Int),⟨th,nm,t.Cols,dr⟩)):=rfl
  have R:g_ref_Updated_l0 (b:Int) wh l ((0:Int),n,(k:Int),⟨th,nm,t.Cols,dr⟩)=(g_ref_Updated_l0 (b:Int) wh l ((0:Int),n,(k:Int),⟨th,nm,t.Cols,dr⟩)):=rfl
  conv at P=>rhs; unfold g_table_Update_l0
  conv at R=>rhs; unfold g_ref_Updated_l0
  dsimp only at P R
  rw [if_pos hkI.2,if_pos hbI,if_pos hkI,Int.toNat_natCast,Int.toNat_natCast,hrest] at P
  rw [if_pos (show (k:Int) < 4∧(0:Int)=0 from ⟨hkI.2,rfl⟩),if_pos hbI,if_pos hkI,Int.toNat_natCast,Int.toNat_natCast,hrest] at R
  by_cases hf:(!((vrd (vrd t.Drawers b) k).Full))=true
  ·rw [if_pos hf] at P R
   rw [Option.bind_some,w64_succ (by omega)] at P R
   obtain ⟨r,z,h1,h2,h3⟩:=upd_loop ok len q hl4 hq hs hk2 hn0 hb H0 m (k+1) n ⟨th,nm,t.Cols,dr⟩ (by omega) hm.next
   exact ⟨r,z,(loopO_next P).trans h1,(loopO_next R).trans h2,h3⟩
  rw [if_neg hf] at P R
  obtain ⟨⟨yes,er⟩,h1,h2,h3,h4⟩:=holds_eq q ok.cols ok.names (by have:=len.rows b k hb hk; omega) (ok.rows b k hb hk)
  rw [h1,Option.bind_some] at P
  rw [h2,Option.bind_some] at R
  dsimp only at P R h3 h4
  by_cases he:er≠0
  ·have hy:=h3 he
   subst hy
   rw [if_neg (fun q=>he q.1),Option.bind_some] at P
   dsimp only at P
   rw [if_pos he] at P
   rw [if_pos (by decide)] at R
   exact ⟨.inl (GTable.zero,0,er),(er,n,_),loopO_done P,(loopO_next R).trans (upd_stop he),.inl ⟨er,_,he,rfl,rfl⟩⟩
  have he0:er=0:=Classical.not_not.1 he
  subst he0
  cases yes with
  | false =>
   rw [if_neg (fun q=>by cases q.2),Option.bind_some] at P
   dsimp only at P
   rw [if_neg he,Option.bind_some,w64_succ (by omega)] at P
   rw [if_pos (by decide),Option.bind_some,w64_succ (by omega)] at R
   obtain ⟨r,z,h5,h6,h7⟩:=upd_loop ok len q hl4 hq hs hk2 hn0 hb H0 m (k+1) n ⟨th,nm,t.Cols,dr⟩ (by omega) hm.next
   exact ⟨r,z,(loopO_next P).trans h5,(loopO_next R).trans h6,h7⟩
  | true =>
   have h3':=h4 rfl
   have hrl:=len.rows b k hb hk
   obtain ⟨_,hrc,_⟩:=row_good (by omega) (ok.rows b k hb hk) h3'
   have ex:∀ j,∃ v:GValue×Int,∃ i:Nat,j < l.length→SetAt t.Cols (vrd (vrd t.Drawers b) k).Row (lrd l j) v i:=fun j=>by
    by_cases hj:j < l.length
    ·obtain ⟨v,i,h⟩:=set_at (hq _ (lrd_mem hj)) ok.cols ok.names (by omega) (ok.rows b k hb hk) h3' (hs j hj)
     exact ⟨v,i,fun _=>h⟩
    ·exact ⟨(GValue.zero,0),0,fun q=>absurd q hj⟩
   obtain ⟨F,hF⟩:=Classical.axiomOfChoice ex
   obtain ⟨A,hA⟩:=Classical.axiomOfChoice hF
   have hfull:fullAt (vrd t.Drawers b) k=true:=by
    unfold fullAt
    cases h:(vrd (vrd t.Drawers b) k).Full with
    | true=>rfl
    | false=>rw [h] at hf; exact absurd rfl hf
   have cp:=changed_prog hrc hl4 hrl hA
   have cr:=changed_ref hrc hl4 hA (t:=⟨th,nm,t.Cols,dr⟩) (b:=b) (i:=k) rfl (by rw [hrest])
   have hg:=fU_good hA (H0 k hk hfull) hk2 hn0 l.length (Nat.le_refl _)
   have hfl:=fU_len (nul:=fun j=>(lrd t.Cols j).Null) (F:=F) (A:=A) (row:=(vrd (vrd t.Drawers b) k).Row) l.length
   generalize fU (fun j=>(lrd t.Cols j).Null) F A (vrd (vrd t.Drawers b) k).Row l.length=u at cp cr hg hfl
   obtain ⟨ue,ur⟩:=u
   dsimp only at cp hg hfl
   rw [if_pos ⟨rfl,rfl⟩,cp,Option.bind_some,letO_eq,Option.bind_some] at P
   rw [if_neg (by decide),if_pos (show room _ _ by simp only [room,List.length_nil]; omega),letO_eq,List.nil_append,cr,Option.bind_some,if_pos hbI,if_pos hkI,letO_eq,Option.bind_some,w64_succ (by omega)] at R
   dsimp only at P R
   by_cases hu:ue=0
   ·subst hu
    rw [if_pos rfl] at P
    dsimp only at P
    rw [if_neg (fun q=>q rfl),Option.bind_some,w64_succ (by omega)] at P
    obtain ⟨r,z,h5,h6,h7⟩:=upd_loop ok len q hl4 hq hs hk2 hn0 hb H0 m (k+1) (w64 (n+1)) _ (by omega) (hm.put hb hk (c:={ (vrd (vrd t.Drawers b) k) with Row:=ur }) (show ur.length < _ by omega) (hg rfl))
    exact ⟨r,z,(loopO_next P).trans h5,(loopO_next R).trans h6,h7⟩
   ·rw [if_neg hu] at P
    dsimp only at P
    rw [if_pos hu] at P
    exact ⟨.inl (GTable.zero,0,ue),(ue,_,_),loopO_done P,(loopO_next R).trans (upd_stop hu),.inl ⟨ue,_,hu,rfl,rfl⟩⟩
theorem check_cols {t:GTable} (h:g_table_Check t=some 0):g_kinds_Columns t.Cols=some 0:=by
 unfold g_table_Check at h
 by_cases h1:(!t.There)=true
 ·rw [if_pos h1] at h; cases h
 rw [if_neg h1] at h
 cases hx:g_lex_Check ({ { GToken.zero with Kind:=(1:Int) } with Text:=t.Name }) with
 | none=>rw [hx] at h; cases h
 | some x =>
  rw [hx,Option.bind_some] at h
  by_cases h2:x≠0
  ·rw [if_pos h2] at h; cases h
  rw [if_neg h2] at h
  cases hy:g_kinds_Columns t.Cols with
  | none=>rw [hy] at h; cases h
  | some y =>
   rw [hy,Option.bind_some] at h
   by_cases h3:y≠0
   ·rw [if_pos h3] at h
    exact absurd (Option.some.inj h) h3
   ·rw [Classical.not_not.1 h3]
theorem g_law_TableUpdates_true {x0:GTable} {x1:Int} {x2:GExpr} {x3:List GSet} (q0:GTable.ok x0) (_q1:okI x1) (q2:GExpr.ok x2) (q3:(okL 104 GSet.ok) x3):g_law_TableUpdates x0 x1 x2 x3=some true:=by
 have ok:=tab_ok q0
 have len:=tab_len q0
 have hl4:x3.length < 9223372036854775807:=Nat.lt_of_le_of_lt (Nat.le_mul_of_pos_right _ (by decide)) (Nat.lt_of_le_of_lt q3.1 (by decide))
 have hq:∀ s∈x3,GExpr.ok s.Expr:=fun s h=>(q3.2.2 s h).2
 have key:∃ r:GTable×Int×Int,g_table_Update x0 x1 x2 x3=some r∧g_ref_Updated x0 x1 x2 x3=some r∧g_law_sameTable r.1 r.1=some true:=by
  obtain ⟨e,h1,h2,hok⟩:=table_eq ok
  unfold g_table_Update g_ref_Updated g_table_begun g_ref_ready
  rw [h1,h2,Option.bind_some,Option.bind_some]
  have bad:∀ (e:Int) (d:Int),e≠0→∃ r:GTable×Int×Int,(some (GTable.zero,(0:Int),e))=some r∧((loopO (g_ref_Updated_l0 d x2 x3) (e,(0:Int),(0:Int),x0)).bind fun y'22=>((if y'22.1=(0:Int) then if 0≤d∧d < (2:Int) then (g_ref_keysFault (vrd y'22.2.2.Drawers d.toNat)).bind fun r'24=>some r'24 else none else some y'22.1)).bind fun j'23=>(if j'23≠(0:Int) then some (GTable.zero,(0:Int),j'23) else some (y'22.2.2,y'22.2.1,(0:Int))))=some r∧g_law_sameTable r.1 r.1=some true:=fun e d he=>by
   refine ⟨_,rfl,?_,sameTable_zero⟩
   rw [upd_stop he,Option.bind_some]
   dsimp only
   rw [if_neg he,Option.bind_some,if_pos he]
  by_cases he:e≠0
  ·rw [if_pos he,if_pos he,Option.bind_some,Option.bind_some]
   dsimp only
   rw [if_neg he,if_neg he,Option.bind_some,Option.bind_some,if_neg he,if_neg he,Option.bind_some,Option.bind_some,if_pos he]
   exact bad e x1 he
  have he0:=Classical.not_not.1 he
  obtain ⟨_,hpos,hk2,hn0,H⟩:=hok he0
  rw [if_neg he,if_neg he]
  by_cases hd:(x1 < (0:Int))∨(x1≥(2:Int))
  ·rw [if_pos hd,if_pos (show x1≠0∧x1≠1 by omega),Option.bind_some,Option.bind_some]
   exact bad 6 x1 (by decide)
  obtain ⟨b,rfl⟩:=Int.eq_ofNat_of_zero_le (show 0≤x1 by omega)
  have hb:b < 2:=by omega
  have hbI:(0:Int)≤(b:Int)∧(b:Int) < 2:=by omega
  obtain ⟨c,h3,h4⟩:=cond_eq q2 ok.cols ok.names
  rw [if_neg hd,if_neg (show ¬ ((b:Int)≠0∧(b:Int)≠1) by omega),fresh_eq len,Option.bind_some,Option.bind_some,Option.bind_some]
  dsimp only
  rw [if_pos rfl,if_pos rfl,h3,h4]
  simp only [Option.bind_some]
  by_cases hc:c=0
  ·have hfine:colsFine x0.Cols:=by
    have h5:g_kinds_Columns x0.Cols=some 0:=check_cols (by rw [h1,he0])
    exact cols_fine ok.cols ok.names h5
   obtain ⟨x,h6,h7,h8⟩:=sets_eq ok.cols ok.names hfine hq
   rw [if_pos hc,if_pos hc,h6,h7]
   simp only [Option.bind_some]
   by_cases hx:x≠0
   ·rw [if_pos hx]
    exact bad x b hx
   have hx0:=Classical.not_not.1 hx
   obtain ⟨r,z,p1,p2,p3⟩:=upd_loop ok len q2 hl4 hq (h8 hx0) hk2 hn0 hb (H b hb) 4 0 0 x0 rfl ⟨rfl,fun _ _ _=>rfl,H b hb,fun i j hi hj=>by have:=len.rows i j hi hj; omega⟩
   have p1':loopO (g_table_Update_l0 (b:Int) x2 x3) ((0:Int),(0:Int),x0)=some r:=p1
   have p2':loopO (g_ref_Updated_l0 (b:Int) x2 x3) ((0:Int),(0:Int),(0:Int),x0)=some z:=p2
   rw [if_neg hx,hx0,p1',p2',Option.bind_some,Option.bind_some]
   rcases p3 with ⟨e',y,he',rfl,rfl⟩ | ⟨n',s',rfl,rfl,hcs,hky,hrw⟩
   ·dsimp only
    rw [if_neg he',Option.bind_some,if_pos he']
    exact ⟨_,rfl,rfl,sameTable_zero⟩
   ·dsimp only
    rw [if_pos hbI,if_pos rfl,if_pos hbI,Int.toNat_natCast,keys_eq hky,keysFault_eq hky]
    simp only [Option.bind_some]
    split
    ·exact ⟨_,rfl,rfl,sameTable_zero⟩
    ·exact ⟨_,rfl,rfl,sameTable_refl _ (by rw [hcs]; exact ok.cols) hrw⟩
  ·rw [if_neg hc,if_neg hc]
   simp only [Option.bind_some]
   rw [if_pos hc]
   exact bad c b hc
 obtain ⟨r,h1,h2,h3⟩:=key
 unfold g_law_TableUpdates
 rw [h1,h2,Option.bind_some,Option.bind_some,if_pos rfl,if_pos rfl,h3]
 rfl
end Go.Proofs.YthnkbagmaljjjaaGreatDoor.VM

