/- Words and rules that the proof uses. -/
import Derived.Test.YteilidpbnndnpaaDoorVtDrawU
namespace Go.Proofs.YteilidpbnndnpaaDoor.VM
open Go Go.RowKit
def CLes (cs cs' : List AV) : Prop := cs'.length ≤ cs.length ∧ ∀ (i : Nat) (a a' : AV), cs[i]? = some a → cs'[i]? = some a' → Les a a'
theorem CLes.pre {cs cs' : List AV} (h : cs' <+: cs) : CLes cs cs' := by
 obtain ⟨t, rfl⟩ := h
 refine ⟨by simp, fun i a a' h1 h2 => ?_⟩
 rw [List.getElem?_append_left (List.getElem?_eq_some_iff.1 h2).1, h2] at h1
 cases h1
 exact .same _
section
variable {P : Program} {s : TS} {dst : Option Tmp} {ty : TypeId} {pos : String} {after : Array Edge}
end
section
variable {P : Program} {s : TS} {dst : Option Tmp} {ty : TypeId} {pos : String} {after : Array Edge}
end
section
variable {P : Program} {s : TS} {dst : Option Tmp} {ty : TypeId} {pos : String} {after : Array Edge}
end
theorem AppD.pub {P : Program} {o : Oper} {s : TS} {b n z : Nat} {cs : List AV} (h : AppD P o s (.c (.own b n z)) b (.pure cs)) (hl : cs.length = n * z) (hz : 0 < z) : AppD P o s (.c (.p (.lst cs n))) b (.pure []) := by
 intro m h1 n1 hm Z a w r next Q hn
 refine h m h1 n1 hm Z a w r next Q ?_
 rintro s' Z' a' w' ⟨ro, h', n', av, rfl, hle, hcase, hoth⟩ rs x
 rcases hcase with ⟨r0, rfl, hr0⟩ | ⟨rfl, h0⟩
 ·have hr0 : h' r0 = some cs := hr0
  have hsub : ∀ q o, (h'.set r0 none) q = some o → h' q = some o := by
   intro q o hq
   by_cases hq2 : q = r0
   ·rw [hq2, Heap.set_eq] at hq; cases hq
   ·rw [Heap.set_ne _ _ _ _ hq2] at hq; exact hq
  have hd0 : hdiff h' (h'.set r0 none) r0 = some cs := by
   rw [hdiff_of (Heap.set_eq _ _ _), hr0]
  have hlent : Lent (hdiff h' (h'.set r0 none)) (.sl r0 0 n z) (.lst cs n) := by
   have := Lent.sl r0 0 n z cs hd0 (by omega)
   rwa [List.drop_zero, List.take_of_length_le (by omega)] at this
  have hle2 : Les av (.sl r0 0 n z) := by
   have := hle
   simp only [TV.rn, T1.rn, nset_eq] at this
   exact this
  have rs2 : SR Z' ((AS.mk (can m s h1 n1).t h' n' s.sz).put o.dst (.sl r0 0 n z)) a' w' := by
   refine ⟨fun u => ?_, ?_, rs.df, ?_, ?_, ?_⟩
   ·by_cases hu : o.dst = some u
    ·have h2 := rs.tm u
     rw [putG_eq hu] at h2 ⊢
     exact hle2 _ _ _ h2
    ·have h2 := rs.tm u
     rw [putG_ne hu] at h2 ⊢
     exact h2
   ·have := rs.ts; rw [putG_sz] at this ⊢; exact this
   ·have := rs.gd; rw [putG_h] at this ⊢; exact this
   ·have := rs.hn; rw [putG_n] at this ⊢; exact this
   ·have := rs.hl; rw [putG_h, putG_n] at this ⊢; exact this
  obtain ⟨r3, x3⟩ := rs2.drop (t' := ((AS.mk (can m s h1 n1).t (h'.set r0 none) n' s.sz).put o.dst (.lst cs n)).t) (h' := h'.set r0 none) (n' := n') (by rw [putG_h]; exact hsub) (fun u => by
   by_cases hu : o.dst = some u
   ·right
    rw [putG_eq hu, putG_eq hu, putG_h]
    exact hlent
   ·left
    rw [putG_ne hu, putG_ne hu]) (by have := rs2.hn; rw [putG_n] at this; exact this) (fun q o' hq => by
     have := rs2.hl
     rw [putG_h, putG_n] at this
     exact this q o' (hsub q o' hq))
  have hst : (⟨((AS.mk (can m s h1 n1).t (h'.set r0 none) n' s.sz).put o.dst (.lst cs n)).t, h'.set r0 none, n', ((AS.mk (can m s h1 n1).t h' n' s.sz).put o.dst (.sl r0 0 n z)).sz⟩ : AS) = (AS.mk (can m s h1 n1).t (h'.set r0 none) n' s.sz).put o.dst (.lst cs n) := by
   cases o.dst <;> rfl
  rw [hst] at r3
  refine hn _ _ _ _ ⟨none, h'.set r0 none, n', .lst cs n, rfl, .same _, .inr ⟨rfl, rfl⟩, fun q hq hmq => ?_⟩ r3 ?_
  ·obtain ⟨h3, h4⟩ := hoth q hq hmq
   exact ⟨by rw [Heap.set_ne _ _ _ _ (fun e => h4 (by rw [e])), h3], by simp⟩
  ·clear rs rs2 r3 hst hn
   cases hod : o.dst with
   | none => rw [hod] at x x3; exact x.trans x3
   | some d => rw [hod] at x x3; exact x.trans x3
 ·have h00 : cs = [] := h0
  subst h00
  have hn0 : n = 0 := by
   rcases Nat.eq_zero_or_pos n with h3 | h3
   ·exact h3
   ·have := Nat.mul_pos h3 hz
    simp at hl
    omega
  subst hn0
  have hle2 : Les av .nil := by
   have := hle
   simp only [TV.rn, T1.rn, nset_eq] at this
   exact this
  exact hn _ _ _ _ ⟨none, h', n', av, rfl, hle2.trans .nil, .inr ⟨rfl, rfl⟩, hoth⟩ rs x
end Go.Proofs.YteilidpbnndnpaaDoor.VM
