/- Words and rules that the proof uses. -/
import Derived.Test.YtalnmpfjgiecdaaDoorVtDrawU
namespace Go.Proofs.YtalnmpfjgiecdaaDoor.VM
open Go Go.RowKit
def CLes (cs cs' : List AV) : Prop := cs'.length ≤ cs.length ∧ ∀ (i : Nat) (a a' : AV), cs[i]? = some a → cs'[i]? = some a' → Les a a'
theorem CLes.pre {cs cs' : List AV} (h : cs' <+: cs) : CLes cs cs' := by
 obtain ⟨t, rfl⟩ := h
 refine ⟨by simp, fun i a a' h1 h2 => ?_⟩
 rw [List.getElem?_append_left (List.getElem?_eq_some_iff.1 h2).1, h2] at h1
 cases h1
 exact .same _
section
variable {P : Program} {s : TS} {dst : Option Tmp} {ty : TypeId} {pos : String} {after : Array Edge}
end
theorem toNat_le {i : Int} {N : Nat} (h : 0 ≤ i ∧ i ≤ (N : Int)) : i.toNat ≤ N := by omega
section
variable {P : Program} {s : TS} {dst : Option Tmp} {ty : TypeId} {pos : String} {after : Array Edge}
theorem u_cutah {t e : TypeId} {x : Operand} {hi : Option Operand} {b off n h z by' : Nat} {zv : Value} {o sub : List AV} (hd : dOk2 s dst = true) (hx0 : isConst x = false) (ht : P.underlying t = some (.array n e)) (hI : Info P e z by' zv) (hx : tev s x = .c (.ptr b off)) (hb : s.h.get b = some (.pure o)) (hne : o ≠ []) (S : Sub o off sub) (hl : sub.length = n * z) (hh : bndT s hi n h) (h2 : h ≤ n) :
  PureD P ⟨dst, .slice t x none hi none, ty, pos, after, none⟩ s (.c (.sl b (off + 0 * z) h z)) :=
 p_cuta (l := 0) (h := h) hd hx0 ht hI.sz hx hb hne (S.le hl) rfl hh (Nat.zero_le _) h2 (.inl rfl)
theorem u_lens {x : Operand} {t e : TypeId} {b off n z : Nat} {o : List AV} (hd : dOk2 s dst = true) (ht : P.underlying t = some (.slice e)) (hx0 : isConst x = false) (hx : tev s x = .c (.sl b off n z)) (hb : s.h.get b = some (.pure o)) (hne : o ≠ []) :
  PureD P ⟨dst, .call { callee := .builtin .len, args := #[x], argTypes := #[t] }, ty, pos, after, none⟩ s (.c (.p (.sc (.int .i64 n)))) :=
 p_len hd hx0 ht (by rw [hx]; rfl) (fun b z h => by rw [hx] at h; cases h) (fun b' o' z' h => by rw [hx] at h; cases h; exact ⟨o, hb, hne⟩)
theorem u_ixs {t e : TypeId} {x y : Operand} {b off n z by' : Nat} {zv : Value} {cs : List AV} {k : IntKind} {i : Int} {j : Nat} (hd : dOk2 s dst = true) (hx0 : isConst x = false) (ht : P.underlying t = some (.slice e)) (hI : Info P e z by' zv) (hx : tev s x = .c (.sl b off n z)) (hb : s.h.get b = some (.pure cs)) (hne : cs ≠ []) (hy : tev s y = .c (.p (.sc (.int k i)))) (hi : i = (j : Int)) (hj : j < n) :
  PureD P ⟨dst, .indexAddr t x y, ty, pos, after, none⟩ s (.c (.ptr b (off + j * z))) := p_ixs hd hx0 ht hI.sz hx hb hne hy hi hj
end
section
variable {P : Program} {s : TS} {dst : Option Tmp} {ty : TypeId} {pos : String} {after : Array Edge}
end
theorem AppD.pub {P : Program} {o : Oper} {s : TS} {b n z : Nat} {cs : List AV} (h : AppD P o s (.c (.own b n z)) b (.pure cs)) (hl : cs.length = n * z) (hz : 0 < z) : AppD P o s (.c (.p (.lst cs n))) b (.pure []) := by
 intro m h1 n1 hm Z a w r next Q hn
 refine h m h1 n1 hm Z a w r next Q ?_
 rintro s' Z' a' w' ⟨ro, h', n', av, rfl, hle, hcase, hoth⟩ rs x
 rcases hcase with ⟨r0, rfl, hr0⟩ | ⟨rfl, h0⟩
 ·have hr0 : h' r0 = some cs := hr0
  have hsub : ∀ q o, (h'.set r0 none) q = some o → h' q = some o := by
   intro q o hq
   by_cases hq2 : q = r0
   ·rw [hq2, Heap.set_eq] at hq; cases hq
   ·rw [Heap.set_ne _ _ _ _ hq2] at hq; exact hq
  have hd0 : hdiff h' (h'.set r0 none) r0 = some cs := by
   rw [hdiff_of (Heap.set_eq _ _ _), hr0]
  have hlent : Lent (hdiff h' (h'.set r0 none)) (.sl r0 0 n z) (.lst cs n) := by
   have := Lent.sl r0 0 n z cs hd0 (by omega)
   rwa [List.drop_zero, List.take_of_length_le (by omega)] at this
  have hle2 : Les av (.sl r0 0 n z) := by
   have := hle
   simp only [TV.rn, T1.rn, nset_eq] at this
   exact this
  have rs2 : SR Z' ((AS.mk (can m s h1 n1).t h' n' s.sz).put o.dst (.sl r0 0 n z)) a' w' := by
   refine ⟨fun u => ?_, ?_, rs.df, ?_, ?_, ?_⟩
   ·by_cases hu : o.dst = some u
    ·have h2 := rs.tm u
     rw [putG_eq hu] at h2 ⊢
     exact hle2 _ _ _ h2
    ·have h2 := rs.tm u
     rw [putG_ne hu] at h2 ⊢
     exact h2
   ·have := rs.ts; rw [putG_sz] at this ⊢; exact this
   ·have := rs.gd; rw [putG_h] at this ⊢; exact this
   ·have := rs.hn; rw [putG_n] at this ⊢; exact this
   ·have := rs.hl; rw [putG_h, putG_n] at this ⊢; exact this
  obtain ⟨r3, x3⟩ := rs2.drop (t' := ((AS.mk (can m s h1 n1).t (h'.set r0 none) n' s.sz).put o.dst (.lst cs n)).t) (h' := h'.set r0 none) (n' := n') (by rw [putG_h]; exact hsub) (fun u => by
   by_cases hu : o.dst = some u
   ·right
    rw [putG_eq hu, putG_eq hu, putG_h]
    exact hlent
   ·left
    rw [putG_ne hu, putG_ne hu]) (by have := rs2.hn; rw [putG_n] at this; exact this) (fun q o' hq => by
     have := rs2.hl
     rw [putG_h, putG_n] at this
     exact this q o' (hsub q o' hq))
  have hst : (⟨((AS.mk (can m s h1 n1).t (h'.set r0 none) n' s.sz).put o.dst (.lst cs n)).t, h'.set r0 none, n', ((AS.mk (can m s h1 n1).t h' n' s.sz).put o.dst (.sl r0 0 n z)).sz⟩ : AS) = (AS.mk (can m s h1 n1).t (h'.set r0 none) n' s.sz).put o.dst (.lst cs n) := by
   cases o.dst <;> rfl
  rw [hst] at r3
  refine hn _ _ _ _ ⟨none, h'.set r0 none, n', .lst cs n, rfl, .same _, .inr ⟨rfl, rfl⟩, fun q hq hmq => ?_⟩ r3 ?_
  ·obtain ⟨h3, h4⟩ := hoth q hq hmq
   exact ⟨by rw [Heap.set_ne _ _ _ _ (fun e => h4 (by rw [e])), h3], by simp⟩
  ·clear rs rs2 r3 hst hn
   cases hod : o.dst with
   | none => rw [hod] at x x3; exact x.trans x3
   | some d => rw [hod] at x x3; exact x.trans x3
 ·have h00 : cs = [] := h0
  subst h00
  have hn0 : n = 0 := by
   rcases Nat.eq_zero_or_pos n with h3 | h3
   ·exact h3
   ·have := Nat.mul_pos h3 hz
    simp at hl
    omega
  subst hn0
  have hle2 : Les av .nil := by
   have := hle
   simp only [TV.rn, T1.rn, nset_eq] at this
   exact this
  exact hn _ _ _ _ ⟨none, h', n', av, rfl, hle2.trans .nil, .inr ⟨rfl, rfl⟩, hoth⟩ rs x
end Go.Proofs.YtalnmpfjgiecdaaDoor.VM
