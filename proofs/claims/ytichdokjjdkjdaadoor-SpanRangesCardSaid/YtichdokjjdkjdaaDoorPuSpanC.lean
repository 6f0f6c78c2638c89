/- Words and rules that the proof uses. -/
import Derived.Test.YtichdokjjdkjdaaDoorPuSpan
namespace Go.Proofs.YtichdokjjdkjdaaDoor.VM
open Go Go.RowKit
theorem ref_step {m : Nat} {col : List UInt8} {l : List GExpr} {k : Nat} (hk : k < l.length) (hl : l.length ≤ 128) (g : goodS (m + 1) (lrd l k)) (nn : Bool) (r : GRange) (hr : inR r) :
  g_ref_RangeOf_l0 col l (nn, (k : Int), r) = some (.inl ((stepR col (nn, r) (lrd l k)).1, ((k + 1 : Nat) : Int), (stepR col (nn, r) (lrd l k)).2)) := by
 unfold g_ref_RangeOf_l0
 dsimp only
 rw [if_pos (natLt hk), if_pos (natIn hk), Int.toNat_natCast, w64_succ (by omega)]
 generalize lrd l k = x at g
 unfold stepR
 by_cases hc : (x.Op < (9 : Int)) ∨ (x.Op > (14 : Int))
 ·rw [if_pos hc, if_pos hc]; rfl
 ·have hop : 9 ≤ x.Op ∧ x.Op ≤ 14 := by omega
  have h2 := args2 g (by omega)
  have g0 := g.2.2.2.2 0 (by omega)
  have g1 := g.2.2.2.2 1 (by omega)
  rw [if_neg hc, if_neg hc, if_pos (by omega), if_pos (by omega)]
  cases m with
  | zero => exact g0.elim
  | succ m =>
   -- the two ways to lay a comparison
   have fin : ∀ (op n : Int), 9 ≤ op ∧ op ≤ 14 → (-9223372036854775807 ≤ n ∧ n ≤ 9223372036854775807) → ((show Option ((Unit) ⊕ (Bool × GRange)) from (if ((op = (9 : Int)) ∨ (op = (14 : Int))) ∨ (op = (13 : Int)) then (if (op = (13 : Int)) ∧ (n < (9223372036854775807 : Int)) then some (.inl ()) else some (.inr ((decide ((nn = true) ∨ ((op = (13 : Int)) ∧ (n = (9223372036854775807 : Int))))), { r with Lo := imax r.Lo n }))) else some (.inr (nn, r)))).bind fun o'12 => match o'12 with | .inl y'11 => some ((decide ((nn = true) ∨ ((op = (13 : Int)) ∧ (n = (9223372036854775807 : Int))))), { r with Lo := imax r.Lo (w64 (n + (1 : Int))) }) | .inr j'8 => ((if (op = (9 : Int)) ∨ (op = (12 : Int)) then some ({ j'8.2 with Hi := imin j'8.2.Hi n }) else some j'8.2)).bind fun j'10 => (if op = (11 : Int) then some (j'8.1, { j'10 with Hi := imin j'10.Hi (w64 (n - (1 : Int))) }) else some (j'8.1, j'10))) = some (if op = 9 then (nn, (⟨max r.Lo n, min r.Hi n⟩ : GRange)) else if op = 11 then (nn, ⟨r.Lo, min r.Hi (n - 1)⟩) else if op = 12 then (nn, ⟨r.Lo, min r.Hi n⟩) else if op = 13 then (if n < 9223372036854775807 then (nn, ⟨max r.Lo (n + 1), r.Hi⟩) else (true, ⟨max r.Lo n, r.Hi⟩)) else if op = 14 then (nn, ⟨max r.Lo n, r.Hi⟩) else (nn, r)) := by
    intro op n hop hn
    have : op = 9 ∨ op = 10 ∨ op = 11 ∨ op = 12 ∨ op = 13 ∨ op = 14 := by omega
    rcases this with rfl | rfl | rfl | rfl | rfl | rfl
    ·simp [imax_eq, imin_eq]
    ·simp
    ·rw [w64_id (n := n - 1) (by omega)]
     simp [imin_eq]
    ·simp [imin_eq]
    ·by_cases hm : n < 9223372036854775807
     ·rw [w64_id (n := n + 1) (by omega)]
      have hne : ¬ n = 9223372036854775807 := by omega
      simp [hm, hne, imax_eq]
     ·have he : n = 9223372036854775807 := by omega
      subst he
      simp [imax_eq]
    ·simp [imax_eq]
   obtain ⟨n1, b1, p1, p2⟩ := lit_ref g1
   obtain ⟨n0, b0, p3, p4⟩ := lit_ref g0
   unfold cmpN
   by_cases hcol : (lrd x.Args 0).Op = 2
   ·rw [if_neg (fun q => q hcol), Option.bind_some]
    dsimp only
    rw [p1, Option.bind_some, if_pos hcol]
    by_cases hnm : (lrd x.Args 0).Name = col
    ·rw [if_pos hnm, p2]
     cases b1
     ·rw [if_pos (.inl (.inl rfl))]; rfl
     ·rw [if_neg (fun q => q.elim (fun q => q.elim (fun q => absurd q (by simp)) (fun q => q hcol)) (fun q => q hnm))]
      refine (congrArg (fun o : Option (Bool × GRange) => o.bind _) (fin x.Op n1 hop (lit_in g1 p2))).trans ?_
      rfl
    ·rw [if_pos (.inr hnm), if_neg hnm]; rfl
   ·rw [if_pos hcol, w64_id (by omega), if_pos (by simp only [List.length_cons, List.length_nil]; omega), letO_eq, turn_tab hop, Option.bind_some]
    dsimp only
    rw [p3, Option.bind_some, if_neg hcol]
    by_cases hc1 : (lrd x.Args 1).Op = 2 ∧ (lrd x.Args 1).Name = col
    ·rw [if_pos hc1, p4]
     cases b0
     ·rw [if_pos (.inl (.inl rfl))]; rfl
     ·rw [if_neg (fun q => q.elim (fun q => q.elim (fun q => absurd q (by simp)) (fun q => q hc1.1)) (fun q => q hc1.2))]
      refine (congrArg (fun o : Option (Bool × GRange) => o.bind _) (fin (turnN x.Op) n0 (turn_in hop) (lit_in g0 p4))).trans ?_
      rfl
    ·rw [if_neg hc1, if_pos (by
      by_cases h5 : (lrd x.Args 1).Op = 2
      ·exact .inr (fun h6 => hc1 ⟨h5, h6⟩)
      ·exact .inl (.inr h5))]
     rfl
theorem ref_loop {col : List UInt8} {l : List GExpr} (hl : l.length ≤ 128) (hg : ∀ x ∈ l, ∃ m, goodS (m + 1) x) : ∃ s, loopO (g_ref_RangeOf_l0 col l) (false, (0 : Int), allR) = some s ∧ fitR s (foldR col allR l) := by
 obtain ⟨s, h1, h2⟩ := loopO_times (step := g_ref_RangeOf_l0 col l) l.length (fun k (s : Bool × GRange) => (s.1, (k : Int), s.2)) (fun k s => fitR s (foldR col allR (l.take k)) ∧ inR s.2) (fun s => fitR s (foldR col allR l)) (fun k s hk hi => by
  obtain ⟨m, g⟩ := hg _ (lrd_mem hk)
  have hin : inR (foldR col allR (l.take k)) := (fold_meet col (l.take k) allR allR_in (fun x hx => (hg x (List.mem_of_mem_take hx)).elim fun m g => one_in g)).2
  left
  refine ⟨stepR col s (lrd l k), ?_, ?_, ?_⟩
  ·have := ref_step (col := col) hk hl g s.1 s.2 hi.2
   exact this
  ·have e : foldR col allR (l.take (k + 1)) = meetR (foldR col allR (l.take k)) (oneR col (lrd l k)) := by
    unfold foldR
    rw [take_step hk, List.foldl_append]
    rfl
   rw [e]
   exact step_fit g hin hi.1
  ·have hs := hi.2
   unfold stepR
   by_cases hc : (lrd l k).Op < 9 ∨ (lrd l k).Op > 14
   ·rw [if_pos hc]; exact hs
   ·rw [if_neg hc]
    cases hcm : cmpN col (lrd l k) with
    | none => exact hs
    | some q =>
     obtain ⟨op, n⟩ := q
     have hn := cmp_in g (by omega) hcm
     unfold inR at hs ⊢
     dsimp only
     split
     ·dsimp only; omega
     ·split
      ·dsimp only; omega
      ·split
       ·dsimp only; omega
       ·split
        ·split
         ·dsimp only; omega
         ·dsimp only; omega
        ·split
         ·dsimp only; omega
         ·exact hs) (fun s hi => ⟨s, by
  unfold g_ref_RangeOf_l0
  dsimp only
  rw [if_neg natNlt], by rw [List.take_length] at hi; exact hi.1⟩) (s := (false, allR)) ⟨⟨fun _ => rfl, fun h => by cases h⟩, allR_in⟩
 exact ⟨s, h1, h2⟩
theorem g_law_SpanRanges_true {x0 : GExpr} {x1 : List UInt8} (q0 : GExpr.ok x0) (_q1 : okT x1) : g_law_SpanRanges x0 x1 = some true := by
 have key : ∃ r, g_span_Of x0 x1 = some r ∧ g_ref_RangeOf x0 x1 = some r := by
  obtain ⟨e, h1, h2⟩ := expr_eq q0
  unfold g_span_Of g_ref_RangeOf
  rw [h1, h2, Option.bind_some, Option.bind_some]
  by_cases he : e ≠ 0
  ·rw [if_pos he, if_pos he]; exact ⟨_, rfl, rfl⟩
  ·have he0 : e = 0 := by omega
   rw [if_neg he, if_neg he, letO_eq]
   rw [he0] at h1
   obtain ⟨l, a1, a2, _, a4, a5⟩ := span_main x1 7 100000 x0 (by decide) (by decide) (check_goodS q0 h1)
   obtain ⟨s, b1, b2⟩ := ref_loop (col := x1) (l := l) a4 a5
   rw [a1, a2, Option.bind_some, Option.bind_some]
   have b1' : loopO (g_ref_RangeOf_l0 x1 l) (false, (0 : Int), ({ { GRange.zero with Lo := (-9223372036854775808 : Int) } with Hi := (9223372036854775807 : Int) } : GRange)) = some s := b1
   rw [b1', Option.bind_some]
   unfold g_span_none
   cases hs : s.1
   ·have hr := b2.1 hs
    rw [hr]
    by_cases hlo : (foldR x1 allR l).Lo > (foldR x1 allR l).Hi
    ·rw [if_pos hlo, if_pos (.inr hlo)]; exact ⟨_, rfl, rfl⟩
    ·rw [if_neg hlo, if_neg (fun q => q.elim (fun q => absurd q (by decide)) hlo)]; exact ⟨_, rfl, rfl⟩
   ·have hr := b2.2 hs
    rw [if_pos hr, if_pos (.inl rfl)]; exact ⟨_, rfl, rfl⟩
 obtain ⟨r, h1, h2⟩ := key
 unfold g_law_SpanRanges
 rw [h1, h2]
 simp
end Go.Proofs.YtichdokjjdkjdaaDoor.VM
