/- Words and rules that the proof uses. -/
import Derived.Test.YtfekkhinjdmcbaaDoorVtMap
import Derived.Test.YtfekkhinjdmcbaaDoorVtTyped
namespace Go.Proofs.YtfekkhinjdmcbaaDoor.VM
open Go Go.RowKit
theorem Y.{u} {α : Sort u} {a : α} : a = a := rfl
theorem nl {l : List AV} {n : Nat} (h : l.length = n + 1) : l ≠ [] := by rintro rfl; cases h
theorem nz {n : Nat} : Nat.succ n ≠ 0 := Nat.succ_ne_zero n
theorem dT {p : Prop} [Decidable p] (h : p) : decide p = true := decide_eq_true h
theorem dF {p : Prop} [Decidable p] (h : ¬ p) : decide p = false := decide_eq_false h
abbrev TV.p (x : AV) : TV := .c (.p x)
abbrev TV.i (x : Int) : TV := .c (.p (AV.int x))
abbrev TV.y (x : List UInt8) : TV := .c (.p (AV.bytes x))
abbrev TV.t (x : List UInt8) : TV := .c (.p (AV.txt x))
abbrev TV.b (x : Bool) : TV := .c (.p (.bool x))
abbrev TV.g (x : List AV) : TV := .c (.p (.agg x))
abbrev TV.q (b o : Nat) : TV := .c (.ptr b o)
def getsT (s : TS) : List (Nat × TV) → List TV
 | [] => []
 | (k, _) :: l => s.t k :: getsT s l
def valsT : List (Nat × TV) → List TV
 | [] => []
 | (_, v) :: l => v :: valsT l
def getsH (s : TS) : Hp → List (Option Blk)
 | [] => []
 | (k, _) :: l => s.h.get k :: getsH s l
def valsH : Hp → List (Option Blk)
 | [] => []
 | (_, v) :: l => some v :: valsH l
theorem fitsT {s : TS} : ∀ {L : List (Nat × TV)}, getsT s L = valsT L → TFits s L
 | [], _ => trivial
 | (k, v) :: l, h => by
  have h1 : s.t k = v := (List.cons.inj h).1
  exact ⟨by rw [h1]; exact .same _, fitsT (List.cons.inj h).2⟩
theorem fitsH {s : TS} : ∀ {H : Hp}, getsH s H = valsH H → HFits s H
 | [], _ => trivial
 | (_, _) :: _, h => ⟨(List.cons.inj h).1, fitsH (List.cons.inj h).2⟩
section
variable {P : Program} {c : Code} {Q : Go.Exit → TS → Prop} {s : TS}
theorem as2 (L : List (Nat × TV)) (H : Hp) {N : Nat} (hN : s.sz = N) (hl : getsT s L = valsT L) (hh : getsH s H = valsH H) (h : AW2 P c Q ⟨L, H, N⟩) : AW2 P c Q s := AW2_st L H hN (fitsT hl) (fitsH hh) h
theorem rs {ops : Array Oper} {l : List Nat} {K : TS → Prop} (L : List (Nat × TV)) (H : Hp) {N : Nat} (hN : s.sz = N) (hl : getsT s L = valsT L) (hh : getsH s H = valsH H) (h : RunW P ops l K ⟨L, H, N⟩) : RunW P ops l K s := RunW_st L H hN (fitsT hl) (fitsH hh) h
theorem rz {ops : Array Oper} {K : TS → Prop} (L : List (Nat × TV)) (H : Hp) {N : Nat} (hN : s.sz = N) (hl : getsT s L = valsT L) (hh : getsH s H = valsH H) (h : K ⟨L, H, N⟩) : RunW P ops [] K s := rs L H hN hl hh (RunW_nil h)
theorem rp {ops : Array Oper} {K : TS → Prop} {i : Nat} {l : List Nat} {o : Oper} {v : TV} (ho : ops[i]? = some o) (hg : o.guard = none) (h : PureD P o s v) (hk : RunW P ops l K (s.put o.dst v)) : RunW P ops (i :: l) K s := r_op ho hg (PureD.opD h) hk
theorem rn {ops : Array Oper} {K : TS → Prop} {l : List Nat} {i j d : Nat} {o : Oper} {want g : Bool} {v : TV} (ho : ops[i]? = some o) (hg : o.guard = some (j, want)) (hj : ((ops[j]?).bind (·.dst)) = some d) (hv : s.t d = .c (.p (.sc (.bool g)))) (hgw : g = want) (hd : dOk2 s (some d) = true) (h : PureD P { o with guard := none } s v) (hk : RunW P ops l K (s.put o.dst v)) : RunW P ops (i :: l) K s := r_on ho hg hj hv hgw hd (PureD.opD h) hk
theorem sg {id : Nat} {ops : Array Oper} {y : Code} (l : List Nat) (hn : List.range ops.size = l) (h : RunW P ops l (thenQ2 (AW2 P y Q) Q .normal) s) : AW2 P (.seq (.region id ops false) y) Q s := AW2_seq (AW2_reg l hn h)
end
end Go.Proofs.YtfekkhinjdmcbaaDoor.VM
