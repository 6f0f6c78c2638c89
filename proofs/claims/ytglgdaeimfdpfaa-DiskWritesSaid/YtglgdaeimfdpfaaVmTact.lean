/- Words and rules that the proof uses. -/
import Derived.Test.YtglgdaeimfdpfaaVmStep
namespace Go.Proofs.Ytglgdaeimfdpfaa.VM
open Go Go.RowKit
def Info (P:Program) (e:TypeId) (z by':Nat) (zv:Value):Prop:=(P.info? e).map (fun i=>(i.size,i.bytes,i.zero))=some (z,by',some zv)
theorem Info.get {P:Program} {e:TypeId} {z by':Nat} {zv:Value} (h:Info P e z by' zv):∃ i,P.info? e=some i∧i.size=z∧i.bytes=by'∧i.zero=some zv:=by
 obtain ⟨i,h1,h2⟩:=Option.map_eq_some_iff.1 h
 simp only [Prod.mk.injEq] at h2
 exact ⟨i,h1,h2.1,h2.2.1,h2.2.2⟩
section steps
variable {P:Program} {ops:Array Oper} {K:AS→Prop} {s:AS} {j:Nat} {l:List Nat} {dst:Option Tmp} {ty:TypeId} {pos:String} {after:Array Edge}
theorem AW_reg {id:Nat} {ops:Array Oper} {Q:Go.Exit→AS→Prop} (l:List Nat) (hn:List.range ops.size=l) (h:OpsW P ops l (Q .normal) s):AW P (.region id ops false) Q s:=by
 subst hn
 exact AW_region rfl h
theorem wrap64 {a:Int} (h : -9223372036854775808≤a∧a≤9223372036854775807):IntKind.i64.wrap a=a:=by
 unfold IntKind.wrap
 simp [IntKind.bits,IntKind.signed]
 omega
end steps
end Go.Proofs.Ytglgdaeimfdpfaa.VM
