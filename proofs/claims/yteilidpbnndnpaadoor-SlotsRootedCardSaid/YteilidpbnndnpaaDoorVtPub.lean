/- Words and rules that the proof uses. -/
import Derived.Test.YteilidpbnndnpaaDoorVtClo
namespace Go.Proofs.YteilidpbnndnpaaDoor.VM
open Go Go.RowKit
theorem putG_eq {s : AS} {u : Nat} {d : Option Nat} {av : AV} (e : d = some u) : (s.put d av).t u = av := by
 subst e; simp [AS.put, AS.set]
theorem putG_ne {s : AS} {u : Nat} {d : Option Nat} {av : AV} (e : d ≠ some u) : (s.put d av).t u = s.t u := by
 cases d with
 | none => rfl
 | some d => simp only [AS.put, AS.set]; rw [if_neg (fun h => e (by rw [h]))]
theorem putG_sz {s : AS} {d : Option Nat} {av : AV} : (s.put d av).sz = s.sz := by cases d <;> rfl
theorem putG_h {s : AS} {d : Option Nat} {av : AV} : (s.put d av).h = s.h := by cases d <;> rfl
theorem putG_n {s : AS} {d : Option Nat} {av : AV} : (s.put d av).n = s.n := by cases d <;> rfl
theorem SR.drop {Z : Nat → Prop} {s : AS} {a : Act} {w : World} {t' : Nat → AV} {h' : Heap} {n' : Nat} (r : SR Z s a w) (hsub : ∀ b o, h' b = some o → s.h b = some o) (ht : ∀ u, t' u = s.t u ∨ Lent (hdiff s.h h') (s.t u) (t' u)) (hn : n' ≤ w.heap.size) (hl : ∀ b o, h' b = some o → b < n') :
  SR (fun b => Z b ∨ hdiff s.h h' b ≠ none) ⟨t', h', n', s.sz⟩ a w ∧ Ext s.h Z w h' (fun b => Z b ∨ hdiff s.h h' b ≠ none) w := by
 have grest : Good Z (hdiff s.h h') w := ⟨r.gd.zb, fun b o hb => r.gd.hz b o (hdiff_some hb).2, fun b o hb => r.gd.hb b o (hdiff_some hb).2, r.gd.tb⟩
 have x0 : Ext s.h Z w h' (fun b => Z b ∨ hdiff s.h h' b ≠ none) w := ⟨rfl, rfl, rfl, Nat.le_refl _, fun _ _ _ => rfl, fun _ _ => rfl, fun b hb => by
   obtain ⟨o, e⟩ := Option.ne_none_iff_exists'.1 hb
   exact .inl (by rw [hsub b o e]; simp), fun _ hb => .inl hb, fun b hb => by
  rcases hb with h1 | h1
  ·exact .inl h1
  ·obtain ⟨o, e⟩ := Option.ne_none_iff_exists'.1 h1
   exact .inr (.inl (by rw [(hdiff_some e).2]; simp))⟩
 refine ⟨⟨fun u => ?_, r.ts, r.df, ⟨fun b hb => ?_, fun b o hb hz => ?_, fun b o hb => ?_, r.gd.tb.mono fun _ h => .inl h⟩, hn, hl⟩, x0⟩
 ·rcases ht u with h1 | h1
  ·show Rel _ w (t' u) _
   rw [h1]
   exact (r.tm u).step r.gd x0
  ·exact h1.rel grest (r.tm u)
 ·rcases hb with h1 | h1
  ·exact r.gd.zb b h1
  ·obtain ⟨o, e⟩ := Option.ne_none_iff_exists'.1 h1
   exact r.gd.lt (hdiff_some e).2
 ·rcases hz with h1 | h1
  ·exact r.gd.hz b o (hsub b o hb) h1
  ·obtain ⟨o2, e⟩ := Option.ne_none_iff_exists'.1 h1
   exact absurd ((hdiff_some e).1.symm.trans hb) (by simp)
 ·exact (r.gd.hb b o (hsub b o hb)).step r.gd x0 rfl
end Go.Proofs.YteilidpbnndnpaaDoor.VM
