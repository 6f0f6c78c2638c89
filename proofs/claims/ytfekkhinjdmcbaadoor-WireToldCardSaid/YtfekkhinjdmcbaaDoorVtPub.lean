/- Words and rules that the proof uses. -/
import Derived.Test.YtfekkhinjdmcbaaDoorVtClo
namespace Go.Proofs.YtfekkhinjdmcbaaDoor.VM
open Go Go.RowKit
theorem putG_eq {s : AS} {u : Nat} {d : Option Nat} {av : AV} (e : d = some u) : (s.put d av).t u = av := by
 subst e; simp [AS.put, AS.set]
theorem putG_ne {s : AS} {u : Nat} {d : Option Nat} {av : AV} (e : d ≠ some u) : (s.put d av).t u = s.t u := by
 cases d with
 | none => rfl
 | some d => simp only [AS.put, AS.set]; rw [if_neg (fun h => e (by rw [h]))]
theorem putG_sz {s : AS} {d : Option Nat} {av : AV} : (s.put d av).sz = s.sz := by cases d <;> rfl
theorem putG_h {s : AS} {d : Option Nat} {av : AV} : (s.put d av).h = s.h := by cases d <;> rfl
theorem putG_n {s : AS} {d : Option Nat} {av : AV} : (s.put d av).n = s.n := by cases d <;> rfl
theorem SR.drop {Z : Nat → Prop} {s : AS} {a : Act} {w : World} {t' : Nat → AV} {h' : Heap} {n' : Nat} (r : SR Z s a w) (hsub : ∀ b o, h' b = some o → s.h b = some o) (ht : ∀ u, t' u = s.t u ∨ Lent (hdiff s.h h') (s.t u) (t' u)) (hn : n' ≤ w.heap.size) (hl : ∀ b o, h' b = some o → b < n') :
  SR (fun b => Z b ∨ hdiff s.h h' b ≠ none) ⟨t', h', n', s.sz⟩ a w ∧ Ext s.h Z w h' (fun b => Z b ∨ hdiff s.h h' b ≠ none) w := by
 have grest : Good Z (hdiff s.h h') w := ⟨r.gd.zb, fun b o hb => r.gd.hz b o (hdiff_some hb).2, fun b o hb => r.gd.hb b o (hdiff_some hb).2, r.gd.tb⟩
 have x0 : Ext s.h Z w h' (fun b => Z b ∨ hdiff s.h h' b ≠ none) w := ⟨rfl, rfl, rfl, Nat.le_refl _, fun _ _ _ => rfl, fun _ _ => rfl, fun b hb => by
   obtain ⟨o, e⟩ := Option.ne_none_iff_exists'.1 hb
   exact .inl (by rw [hsub b o e]; simp), fun _ hb => .inl hb, fun b hb => by
  rcases hb with h1 | h1
  ·exact .inl h1
  ·obtain ⟨o, e⟩ := Option.ne_none_iff_exists'.1 h1
   exact .inr (.inl (by rw [(hdiff_some e).2]; simp))⟩
 refine ⟨⟨fun u => ?_, r.ts, r.df, ⟨fun b hb => ?_, fun b o hb hz => ?_, fun b o hb => ?_, r.gd.tb.mono fun _ h => .inl h⟩, hn, hl⟩, x0⟩
 ·rcases ht u with h1 | h1
  ·show Rel _ w (t' u) _
   rw [h1]
   exact (r.tm u).step r.gd x0
  ·exact h1.rel grest (r.tm u)
 ·rcases hb with h1 | h1
  ·exact r.gd.zb b h1
  ·obtain ⟨o, e⟩ := Option.ne_none_iff_exists'.1 h1
   exact r.gd.lt (hdiff_some e).2
 ·rcases hz with h1 | h1
  ·exact r.gd.hz b o (hsub b o hb) h1
  ·obtain ⟨o2, e⟩ := Option.ne_none_iff_exists'.1 h1
   exact absurd ((hdiff_some e).1.symm.trans hb) (by simp)
 ·exact (r.gd.hb b o (hsub b o hb)).step r.gd x0 rfl
theorem MakeD.pubD {P : Program} {o : Oper} {s : TS} {b n z : Nat} {cs : List AV} (h : MakeD P o s (.c (.own b n z)) b cs) (hl : cs.length = n * z) (hz : 0 < z) : PureD P o s (.c (.p (.lst cs n))) := by
 intro m h1 n1 hm
 refine OpW_hl fun hlt => ?_
 intro Z a w r next Q hn
 refine h m h1 n1 hm Z a w r next Q ?_
 rintro s' Z' a' w' ⟨r0, n', av, hr, hfree, hlt', rfl, hav⟩ rs x
 have hle := hav (nset m b (some r0)) (nset_eq _ _ _)
 have hsub : ∀ q o, h1 q = some o → (h1.set r0 (some cs)) q = some o := by
  intro q o hq
  rw [Heap.set_ne _ _ _ _ (by rintro rfl; rw [hfree] at hq; cases hq)]
  exact hq
 have hd0 : hdiff (h1.set r0 (some cs)) h1 r0 = some cs := by
  rw [hdiff_of hfree, Heap.set_eq]
 have hlent : Lent (hdiff (h1.set r0 (some cs)) h1) (.sl r0 0 n z) (.lst cs n) := by
  have := Lent.sl r0 0 n z cs hd0 (by omega)
  rwa [List.drop_zero, List.take_of_length_le (by omega)] at this
 have hle2 : Les av (.sl r0 0 n z) := by
  have := hle
  simp only [TV.rn, T1.rn, nset_eq] at this
  exact this
 -- the slot is told as part of a block first
 have rs2 : SR Z' ((AS.mk (can m s h1 n1).t (h1.set r0 (some cs)) n' s.sz).put o.dst (.sl r0 0 n z)) a' w' := by
  refine ⟨fun u => ?_, ?_, rs.df, ?_, ?_, ?_⟩
  ·by_cases hu : o.dst = some u
   ·have h2 := rs.tm u
    rw [putG_eq hu] at h2 ⊢
    exact hle2 _ _ _ h2
   ·have h2 := rs.tm u
    rw [putG_ne hu] at h2 ⊢
    exact h2
  ·have := rs.ts; rw [putG_sz] at this ⊢; exact this
  ·have := rs.gd; rw [putG_h] at this ⊢; exact this
  ·have := rs.hn; rw [putG_n] at this ⊢; exact this
  ·have := rs.hl; rw [putG_h, putG_n] at this ⊢; exact this
 obtain ⟨r3, x3⟩ := rs2.drop (t' := ((AS.mk (can m s h1 n1).t h1 n' s.sz).put o.dst (.lst cs n)).t) (h' := h1) (n' := n') (by rw [putG_h]; exact hsub) (fun u => by
  by_cases hu : o.dst = some u
  ·right
   rw [putG_eq hu, putG_eq hu, putG_h]
   exact hlent
  ·left
   rw [putG_ne hu, putG_ne hu]) (by have := rs2.hn; rw [putG_n] at this; exact this) (fun q o' hq => by
    exact hlt' q o' (hsub q o' hq))
 have hst : (⟨((AS.mk (can m s h1 n1).t h1 n' s.sz).put o.dst (.lst cs n)).t, h1, n', ((AS.mk (can m s h1 n1).t (h1.set r0 (some cs)) n' s.sz).put o.dst (.sl r0 0 n z)).sz⟩ : AS) = (AS.mk (can m s h1 n1).t h1 n' s.sz).put o.dst (.lst cs n) := by
  cases o.dst <;> rfl
 rw [hst] at r3
 refine hn _ _ _ _ ⟨h1, n', .lst cs n, fun q o' hq => hlt' q o' (hsub q o' hq), .refl _, rfl, .same _⟩ r3 ?_
 clear rs rs2 r3 hst hn
 cases hod : o.dst with
 | none => rw [hod] at x x3; exact x.trans x3
 | some d => rw [hod] at x x3; exact x.trans x3
def idxL (k : Nat) : List (List AV) → List (Nat × List AV)
 | [] => []
 | x :: l => (k, x) :: idxL (k + 1) l
theorem af_idx {α : Type} {g : α → List AV} {z : Nat} {zs : List AV} (hg : ∀ x, (g x).length = z) (hz : zs.length = z) : ∀ (l done : List α), afill (fun i => some (i * z, z)) (done.flatMap g ++ azeros l.length zs) (idxL done.length (l.map g)) = some ((done ++ l).flatMap g)
 | [], done => by simp [afill, idxL, azeros]
 | x :: l, done => by
  have hd : (done.flatMap g).length = done.length * z := fm_length hg done
  have hx := hg x
  simp only [List.map_cons, idxL, afill]
  have hrest : azeros (l.length + 1) zs = zs ++ azeros l.length zs := by simp [azeros, List.replicate_succ]
  rw [List.length_cons, hrest, if_pos ⟨hx, by simp only [List.length_append]; omega⟩]
  have hw : wCells (done.flatMap g ++ (zs ++ azeros l.length zs)) (done.length * z) (g x) = (done ++ [x]).flatMap g ++ azeros l.length zs := by
   unfold wCells
   rw [List.take_left' hd, ← List.append_assoc (done.flatMap g) zs, List.drop_left' (by rw [List.length_append, hd, hz, hx])]
   simp
  rw [hw]
  have := af_idx hg hz l (done ++ [x])
  rw [List.length_append] at this
  rw [show done.length + [x].length = done.length + 1 from rfl] at this
  rw [this]
  simp
theorem af_lit {α : Type} {g : α → List AV} {z : Nat} {zs : List AV} (hg : ∀ x, (g x).length = z) (hz : zs.length = z) (l : List α) : afill (fun i => some (i * z, z)) (azeros l.length zs) (idxL 0 (l.map g)) = some (l.flatMap g) := af_idx hg hz l []
end Go.Proofs.YtfekkhinjdmcbaaDoor.VM
