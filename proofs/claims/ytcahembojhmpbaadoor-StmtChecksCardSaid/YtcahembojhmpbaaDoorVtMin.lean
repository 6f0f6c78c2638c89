/- Words and rules that the proof uses. -/
import Derived.Test.YtcahembojhmpbaaDoorVtCut
namespace Go.Proofs.YtcahembojhmpbaaDoor.VM
open Go Go.RowKit
def imin (a b : Int) : Int := if b < a then b else a
theorem OpW_imin {P : Program} {K : AS → Prop} {s : AS} {dst : Option Tmp} {ty : TypeId} {pos : String} {after : Array Edge} {x y : Operand} {k : IntKind} {a b : Int} {ats : Array TypeId} (hx : aev s x = .sc (.int k a)) (hy : aev s y = .sc (.int k b)) (hd : dOk s dst = true) (hk : K (s.put dst (.sc (.int k (imin a b))))) :
  OpW P ⟨dst, .call { callee := .builtin .min, args := #[x, y], argTypes := ats }, ty, pos, after, none⟩ K s := by
 refine OpW_same hd (fun Z a' w r => ⟨_, ?_, .sc _ rfl⟩) hk
 have h1 := aev_rel r x
 rw [hx] at h1
 have h2 := aev_rel r y
 rw [hy] at h2
 simp [execOp, resolve, invoke, builtin, h1.sc_inv, h2.sc_inv, Builtin.min_, Builtin.min2, imin]
section
variable {P : Program} {s : TS} {dst : Option Tmp} {ty : TypeId} {pos : String} {after : Array Edge}
theorem p_imin {x y : Operand} {k : IntKind} {a b : Int} {ats : Array TypeId} (hd : dOk2 s dst = true) (hx : tev s x = .c (.p (.sc (.int k a)))) (hy : tev s y = .c (.p (.sc (.int k b)))) : PureD P ⟨dst, .call { callee := .builtin .min, args := #[x, y], argTypes := ats }, ty, pos, after, none⟩ s (.c (.p (.sc (.int k (imin a b))))) :=
 PureD_same fun m h1 n hm K hk => OpW_imin (aev_sc hx) (aev_sc hy) (dOk_can hd) (hk _ (.same _))
end
theorem wpOps_cut {P : Program} {ops : Array Oper} {Q : Go.Exit → Act → World → Prop} {l2 : List Nat} : ∀ (l1 : List Nat) (a : Act) (w : World), wpOps P ops (fun e => match e with | .normal => wpOps P ops Q l2 | e => Q e) l1 a w → wpOps P ops Q (l1 ++ l2) a w
 | [], _, _, h => h
 | i :: l1, a, w, h => by
  have hout : LetsOut (fun e => match e with | .normal => wpOps P ops Q l2 | e => Q e) → LetsOut Q := fun ⟨a, w, h⟩ => ⟨a, w, h⟩
  have ih := fun (a : Act) (w : World) => wpOps_cut (P := P) (ops := ops) (Q := Q) (l2 := l2) l1 a w
  rw [List.cons_append]
  unfold wpOps at h ⊢
  cases ho : ops[i]? with
  | none => rw [ho] at h; exact ih _ _ h
  | some o =>
   rw [ho] at h
   dsimp only at h ⊢
   by_cases hw : Region.wanted o (yielded ops a.tmps) = true
   ·rw [if_pos hw] at h ⊢
    rcases h with h | ⟨h1, h2⟩
    ·left
     unfold Oper.wp at h ⊢
     generalize (execOp a.eval o).run P w = r at h ⊢
     unfold Oper.upon at h ⊢
     split at h
     ·exact ih _ _ h
     ·exact ih _ _ h
     ·exact ih _ _ h
     ·refine Calls.mono h fun e w2 h3 => ?_
      cases e with
      | returned v => exact ih _ _ h3
      | panicked c => exact h3
      | outgrown => exact hout h3
     ·exact Rows.mono h fun v w2 h3 => ih _ _ h3
     ·exact h
     ·exact h
    ·exact .inr ⟨h1, hout h2⟩
   ·rw [if_neg hw] at h ⊢
    exact ih _ _ h
theorem RunW_cut {P : Program} {ops : Array Oper} {l : List Nat} {K : TS → Prop} {s : TS} (l1 l2 : List Nat) (S : TS) (hl : l = l1 ++ l2) (h1 : RunW P ops l1 (fun s1 => s1 = S) s) (h2 : RunW P ops l2 K S) : RunW P ops l K s := by
 subst hl
 intro m hp n hm Z a w r Q hq
 refine wpOps_cut l1 a w (h1 m hp n hm Z a w r _ ?_)
 rintro s' Z' a' w' ⟨s2, m', rfl, pn, f⟩ r' x
 exact f.run h2 Z' a' w' r' Q fun s3 Z3 a3 w3 ⟨s4, m4, q, pn4, f4⟩ r3 x3 => hq s3 Z3 a3 w3 ⟨s4, m4, q, pn.trans pn4, f4⟩ r3 (x.trans x3)
end Go.Proofs.YtcahembojhmpbaaDoor.VM
