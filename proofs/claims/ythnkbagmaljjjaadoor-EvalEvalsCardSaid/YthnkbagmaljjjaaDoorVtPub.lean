/- Words and rules that the proof uses. -/
import Derived.Test.YthnkbagmaljjjaaDoorVtClo
namespace Go.Proofs.YthnkbagmaljjjaaDoor.VM
open Go Go.RowKit
theorem SR.drop {Z : Nat → Prop} {s : AS} {a : Act} {w : World} {t' : Nat → AV} {h' : Heap} {n' : Nat} (r : SR Z s a w) (hsub : ∀ b o, h' b = some o → s.h b = some o) (ht : ∀ u, t' u = s.t u ∨ Lent (hdiff s.h h') (s.t u) (t' u)) (hn : n' ≤ w.heap.size) (hl : ∀ b o, h' b = some o → b < n') :
  SR (fun b => Z b ∨ hdiff s.h h' b ≠ none) ⟨t', h', n', s.sz⟩ a w ∧ Ext s.h Z w h' (fun b => Z b ∨ hdiff s.h h' b ≠ none) w := by
 have grest : Good Z (hdiff s.h h') w := ⟨r.gd.zb, fun b o hb => r.gd.hz b o (hdiff_some hb).2, fun b o hb => r.gd.hb b o (hdiff_some hb).2, r.gd.tb⟩
 have x0 : Ext s.h Z w h' (fun b => Z b ∨ hdiff s.h h' b ≠ none) w := ⟨rfl, rfl, rfl, Nat.le_refl _, fun _ _ _ => rfl, fun _ _ => rfl, fun b hb => by
   obtain ⟨o, e⟩ := Option.ne_none_iff_exists'.1 hb
   exact .inl (by rw [hsub b o e]; simp), fun _ hb => .inl hb, fun b hb => by
  rcases hb with h1 | h1
  ·exact .inl h1
  ·obtain ⟨o, e⟩ := Option.ne_none_iff_exists'.1 h1
   exact .inr (.inl (by rw [(hdiff_some e).2]; simp))⟩
 refine ⟨⟨fun u => ?_, r.ts, r.df, ⟨fun b hb => ?_, fun b o hb hz => ?_, fun b o hb => ?_, r.gd.tb.mono fun _ h => .inl h⟩, hn, hl⟩, x0⟩
 ·rcases ht u with h1 | h1
  ·show Rel _ w (t' u) _
   rw [h1]
   exact (r.tm u).step r.gd x0
  ·exact h1.rel grest (r.tm u)
 ·rcases hb with h1 | h1
  ·exact r.gd.zb b h1
  ·obtain ⟨o, e⟩ := Option.ne_none_iff_exists'.1 h1
   exact r.gd.lt (hdiff_some e).2
 ·rcases hz with h1 | h1
  ·exact r.gd.hz b o (hsub b o hb) h1
  ·obtain ⟨o2, e⟩ := Option.ne_none_iff_exists'.1 h1
   exact absurd ((hdiff_some e).1.symm.trans hb) (by simp)
 ·exact (r.gd.hb b o (hsub b o hb)).step r.gd x0 rfl
def idxL (k : Nat) : List (List AV) → List (Nat × List AV)
 | [] => []
 | x :: l => (k, x) :: idxL (k + 1) l
theorem af_idx {α : Type} {g : α → List AV} {z : Nat} {zs : List AV} (hg : ∀ x, (g x).length = z) (hz : zs.length = z) : ∀ (l done : List α), afill (fun i => some (i * z, z)) (done.flatMap g ++ azeros l.length zs) (idxL done.length (l.map g)) = some ((done ++ l).flatMap g)
 | [], done => by simp [afill, idxL, azeros]
 | x :: l, done => by
  have hd : (done.flatMap g).length = done.length * z := fm_length hg done
  have hx := hg x
  simp only [List.map_cons, idxL, afill]
  have hrest : azeros (l.length + 1) zs = zs ++ azeros l.length zs := by simp [azeros, List.replicate_succ]
  rw [List.length_cons, hrest, if_pos ⟨hx, by simp only [List.length_append]; omega⟩]
  have hw : wCells (done.flatMap g ++ (zs ++ azeros l.length zs)) (done.length * z) (g x) = (done ++ [x]).flatMap g ++ azeros l.length zs := by
   unfold wCells
   rw [List.take_left' hd, ← List.append_assoc (done.flatMap g) zs, List.drop_left' (by rw [List.length_append, hd, hz, hx])]
   simp
  rw [hw]
  have := af_idx hg hz l (done ++ [x])
  rw [List.length_append] at this
  rw [show done.length + [x].length = done.length + 1 from rfl] at this
  rw [this]
  simp
theorem af_lit {α : Type} {g : α → List AV} {z : Nat} {zs : List AV} (hg : ∀ x, (g x).length = z) (hz : zs.length = z) (l : List α) : afill (fun i => some (i * z, z)) (azeros l.length zs) (idxL 0 (l.map g)) = some (l.flatMap g) := af_idx hg hz l []
end Go.Proofs.YthnkbagmaljjjaaDoor.VM
