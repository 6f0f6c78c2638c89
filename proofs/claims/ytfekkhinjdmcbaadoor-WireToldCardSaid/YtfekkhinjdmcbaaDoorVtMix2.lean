/- Words and rules that the proof uses. -/
import Derived.Test.YtfekkhinjdmcbaaDoorVtMix
namespace Go.Proofs.YtfekkhinjdmcbaaDoor.VM
open Go Go.RowKit
theorem p_u64andnot {P : Program} {s : TS} {dst : Option Tmp} {ty : TypeId} {pos : String} {after : Array Edge} {t yt : TypeId} {x y : Operand} {a b : UInt64} (hd : dOk2 s dst = true) (hx : tev s x = .c (.p (.sc (.int .u64 a.toNat)))) (hy : tev s y = .c (.p (.sc (.int .u64 b.toNat)))) : PureD P ⟨dst, .binOp .andNot t x y yt, ty, pos, after, none⟩ s (.c (.p (.sc (.int .u64 (a &&& ~~~ b).toNat)))) := by
 have e : UInt64.ofNat (a.toBitVec &&& ~~~ b.toBitVec).toNat = a &&& ~~~ b := by
  rw [← UInt64.toBitVec_inj, UInt64.toBitVec_and, UInt64.toBitVec_not]
  show BitVec.ofNat 64 (a.toBitVec &&& ~~~ b.toBitVec).toNat = _
  rw [BitVec.ofNat_toNat, BitVec.setWidth_eq]
 exact p_bin hd hx hy (by simp only [ibin, Go.bits]; rw [bits_u64, bits_u64, wrap_u64]; exact congrArg (fun q : UInt64 => some (Value.int .u64 (q.toNat : Int))) e)
section lit
variable {P : Program} {s : TS} {dst : Option Tmp} {ty : TypeId} {pos : String} {after : Array Edge}
theorem u_bldmn {t : TypeId} {parts : Array (Nat × Operand)} {z by' : Nat} {zv : Value} {pl : List (Nat × Nat)} {ps : List (Nat × List T1)} {zs : List AV} {cs : List T1} (hd : dOk2 s dst = true) (hI : Info P t z by' zv) (h1 : zv.cells.all (·.oneCell') = true) (hzs : zv.cells.toList.map cAV = zs)
  (hpl : placesOf P t = some pl) (hp : oparts s parts.toList = some ps) (hf : ∀ m, afill (fun i => pl[i]?) zs (ps.map (prn m)) = some (cs.map (T1.rn m))) : PureD P ⟨dst, .build t parts, ty, pos, after, none⟩ s (.agg cs) := by
 subst hzs
 obtain ⟨i, hi, _, _, hz⟩ := hI.get
 refine PureD_same fun m h1' n hm K hk => OpW_same (av := .agg (cs.map (T1.rn m))) (dOk_can hd) (fun Z a w r => ?_) (hk _ (.same _))
 obtain ⟨arr, hfill, hrel⟩ := fill_rel (fun i => pl[i]?) _ _ _ _ zv.cells (oparts_rel r _ _ hp) (zero_rel h1) (hf m)
 refine ⟨.agg arr, ?_, hrel.agg⟩
 have hb : P.built t (parts.map fun (x : Nat × Operand) => (x.1, a.eval x.2)).toList = some arr := by
  unfold Program.built
  unfold placesOf at hpl
  rw [hi]
  cases hu : P.underlying t with
  | none => simp [hu] at hpl
  | some d =>
   cases d <;> simp only [hu] at hpl <;> try (cases hpl; done)
   rename_i fields
   simp only [hz]
   rw [hpl]
   simp only [Array.toList_map]
   rw [← hfill]
   congr 1
   funext k
   simp
 have hrun := run_build (P := P) w t _ arr hb
 simp only [execOp]
 rw [Sem.run_bind, hrun]
 rfl
end lit
end Go.Proofs.YtfekkhinjdmcbaaDoor.VM
