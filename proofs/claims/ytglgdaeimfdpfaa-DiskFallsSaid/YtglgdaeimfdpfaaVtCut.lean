/- Rows of one's own that are cut, or given away behind 'append'. -/
import Derived.Test.YtglgdaeimfdpfaaVtDrawU
namespace Go.Proofs.Ytglgdaeimfdpfaa.VM
open Go Go.RowKit
/-- Cells that tell no more than others do. -/
def CLes (cs cs' : List AV) : Prop := cs'.length ≤ cs.length ∧ ∀ (i : Nat) (a a' : AV), cs[i]? = some a → cs'[i]? = some a' → Les a a'
theorem CLes.pre {cs cs' : List AV} (h : cs' <+: cs) : CLes cs cs' := by
  obtain ⟨t, rfl⟩ := h
  refine ⟨by simp, fun i a a' h1 h2 => ?_⟩
  rw [List.getElem?_append_left (List.getElem?_eq_some_iff.1 h2).1, h2] at h1
  cases h1
  exact .same _
/-- A block is told by less. -/
theorem Gho_blk {s : TS} {b : Nat} {k k' : Blk} (hb : s.h.get b = some k) (hc : ∀ m, CLes (k.cells m) (k'.cells m)) : Gho s ⟨s.l, s.h.set b k', s.sz⟩ := by
  intro m h1 n' hm Z a w r
  obtain ⟨hlen, hle⟩ := hc m
  rcases hm.blk b k hb with ⟨rb, hr, hh⟩ | ⟨hr, h0⟩
  · have hh1 : (can m s h1 n').h rb = some (k.cells m) := hh
    refine ⟨m, ⟨(can m s h1 n').t, h1.set rb (some (k'.cells m)), n', s.sz⟩, Z, .refl m, ⟨rfl, hm.write hb hr, fun u => .same _⟩, ⟨r.tm, r.ts, r.df, ⟨r.gd.zb, fun q o hq => ?_, fun q o hq => ?_, r.gd.tb⟩, r.hn, fun q o hq => ?_⟩, ⟨rfl, rfl, rfl, Nat.le_refl _, fun _ _ _ => rfl, fun _ _ => rfl, fun q hq => ?_, fun _ hz => hz, fun _ hz => .inl hz⟩⟩
    · have hq : (h1.set rb (some (k'.cells m))) q = some o := hq
      by_cases hq2 : q = rb
      · subst hq2; exact r.gd.hz q _ hh1
      · rw [Heap.set_ne _ _ _ _ hq2] at hq; exact r.gd.hz q o hq
    · have hq : (h1.set rb (some (k'.cells m))) q = some o := hq
      by_cases hq2 : q = rb
      · subst hq2
        rw [Heap.set_eq] at hq
        cases hq
        obtain ⟨arr, e, lo, hi, hh2, hl0, hr0, hf⟩ := r.gd.hb q _ hh1
        refine ⟨arr, e, lo, hi, hh2, Nat.le_trans hlen hl0, fun i c u hc2 hu => ?_, hf⟩
        have hi2 : i < (k.cells m).length := Nat.lt_of_lt_of_le (List.getElem?_eq_some_iff.1 hc2).1 hlen
        obtain ⟨h3, h4⟩ := hr0 i _ u (List.getElem?_eq_getElem hi2) hu
        exact ⟨hle i _ c (List.getElem?_eq_getElem hi2) hc2 _ _ _ h3, h4⟩
      · rw [Heap.set_ne _ _ _ _ hq2] at hq; exact r.gd.hb q o hq
    · have hq : (h1.set rb (some (k'.cells m))) q = some o := hq
      by_cases hq2 : q = rb
      · subst hq2; exact r.hl q _ hh1
      · rw [Heap.set_ne _ _ _ _ hq2] at hq; exact r.hl q o hq
    · by_cases hq2 : q = rb
      · subst hq2; exact .inl (by show h1 q ≠ none; rw [show h1 q = some _ from hh1]; simp)
      · have hq3 : (h1.set rb (some (k'.cells m))) q ≠ none := hq
        rw [Heap.set_ne _ _ _ _ hq2] at hq3; exact .inl hq3
  · have h00 : k'.cells m = [] := List.eq_nil_of_length_eq_zero (by rw [h0] at hlen; simpa using hlen)
    refine ⟨m, can m s h1 n', Z, .refl m, ⟨rfl, ⟨fun c q hq => ?_, fun c c' q hc2 hc' => ?_⟩, fun u => .same _⟩, r, Ext.refl _ _ _⟩
    · rw [Hp.get_set] at hq
      by_cases hcb : c = b
      · rw [if_pos hcb] at hq
        cases hq
        exact .inr ⟨by rw [hcb]; exact hr, h00⟩
      · rw [if_neg hcb] at hq
        exact hm.blk c q hq
    · have nn : ∀ x, (s.h.set b k').get x ≠ none → s.h.get x ≠ none := fun x hx => by
        rw [Hp.get_set] at hx
        by_cases hxb : x = b
        · rw [hxb, hb]; simp
        · rwa [if_neg hxb] at hx
      exact hm.inj c c' q (nn c hc2) (nn c' hc')
theorem take_bytes (k : Nat) (l : List UInt8) : bcells (l.take k) <+: bcells l := ⟨bcells (l.drop k), by simp only [bcells]; rw [← List.map_append, List.take_append_drop]⟩
theorem take_map {α : Type} (f : α → AV) (k : Nat) (l : List α) : (l.take k).map f <+: l.map f := ⟨(l.drop k).map f, by rw [← List.map_append, List.take_append_drop]⟩
theorem take_fm {α : Type} (g : α → List AV) (k : Nat) (l : List α) : (l.take k).flatMap g <+: l.flatMap g := ⟨(l.drop k).flatMap g, by rw [← List.flatMap_append, List.take_append_drop]⟩
theorem cutN {α : Type} {l : List α} {i : Int} (h : 0 ≤ i ∧ i ≤ (l.length : Int)) : i.toNat = (l.take i.toNat).length := by rw [List.length_take]; omega
section
variable {P : Program} {s : TS} {dst : Option Tmp} {ty : TypeId} {pos : String} {after : Array Edge}
/-- The front of a row of one's own. -/
theorem u_cuto {t e : TypeId} {x : Operand} {hi : Option Operand} {b n h z by' : Nat} {zv : Value} {cs : List AV} (hd : dOk2 s dst = true) (hx0 : isConst x = false) (ht : P.underlying t = some (.slice e)) (hI : Info P e z by' zv) (hx : tev s x = .c (.own b n z)) (hb : s.h.get b = some (.pure cs)) (hcl : cs.length = n * z) (hz0 : 0 < z) (hh : bndT s hi n h) (h2 : h ≤ n) :
    PureD P ⟨dst, .slice t x none hi none, ty, pos, after, none⟩ s (.c (.own b h z)) := by
  refine PureD_same fun m hp n' hm K hk => ?_
  rcases hm.blk b _ hb with ⟨r, hr, _⟩ | ⟨hr, h0⟩
  · refine OpW_cut_s (b := r) (off := 0) (n := n) (z := z) (l := 0) (h := h) (by rw [aev_eq hx0, hx]; simp only [TV.rn, T1.rn, hr]) ht hI.sz rfl (bnd_can hh) rfl (Nat.zero_le _) h2 (.inl rfl) (dOk_can hd) (hk _ ?_)
    simp only [TV.rn, T1.rn, hr, Nat.zero_mul, Nat.add_zero, Nat.sub_zero]
    exact .same _
  · have h00 : cs = [] := h0
    subst h00
    have hn : n = 0 := by
      rcases Nat.eq_zero_or_pos n with h3 | h3
      · exact h3
      · have := Nat.mul_pos h3 hz0
        simp at hcl
        omega
    subst hn
    have hh0 : h = 0 := by omega
    subst hh0
    refine OpW_cut_nil (by rw [aev_eq hx0, hx]; simp only [TV.rn, T1.rn, hr]) ht hI.sz rfl (bnd_can hh) rfl (dOk_can hd) (hk _ ?_)
    simp only [TV.rn, T1.rn, hr]
    exact .same _
end
theorem toNat_le {i : Int} {N : Nat} (h : 0 ≤ i ∧ i ≤ (N : Int)) : i.toNat ≤ N := by omega
section
variable {P : Program} {s : TS} {dst : Option Tmp} {ty : TypeId} {pos : String} {after : Array Edge}
/-- The front of an array, as a row. -/
theorem u_cutah {t e : TypeId} {x : Operand} {hi : Option Operand} {b off n h z by' : Nat} {zv : Value} {o sub : List AV} (hd : dOk2 s dst = true) (hx0 : isConst x = false) (ht : P.underlying t = some (.array n e)) (hI : Info P e z by' zv) (hx : tev s x = .c (.ptr b off)) (hb : s.h.get b = some (.pure o)) (hne : o ≠ []) (S : Sub o off sub) (hl : sub.length = n * z) (hh : bndT s hi n h) (h2 : h ≤ n) :
    PureD P ⟨dst, .slice t x none hi none, ty, pos, after, none⟩ s (.c (.sl b (off + 0 * z) h z)) :=
  p_cuta (l := 0) (h := h) hd hx0 ht hI.sz hx hb hne (S.le hl) rfl hh (Nat.zero_le _) h2 (.inl rfl)
theorem u_lens {x : Operand} {t e : TypeId} {b off n z : Nat} {o : List AV} (hd : dOk2 s dst = true) (ht : P.underlying t = some (.slice e)) (hx0 : isConst x = false) (hx : tev s x = .c (.sl b off n z)) (hb : s.h.get b = some (.pure o)) (hne : o ≠ []) :
    PureD P ⟨dst, .call { callee := .builtin .len, args := #[x], argTypes := #[t] }, ty, pos, after, none⟩ s (.c (.p (.sc (.int .i64 n)))) :=
  p_len hd hx0 ht (by rw [hx]; rfl) (fun b z h => by rw [hx] at h; cases h) (fun b' o' z' h => by rw [hx] at h; cases h; exact ⟨o, hb, hne⟩)
theorem u_ixs {t e : TypeId} {x y : Operand} {b off n z by' : Nat} {zv : Value} {cs : List AV} {k : IntKind} {i : Int} {j : Nat} (hd : dOk2 s dst = true) (hx0 : isConst x = false) (ht : P.underlying t = some (.slice e)) (hI : Info P e z by' zv) (hx : tev s x = .c (.sl b off n z)) (hb : s.h.get b = some (.pure cs)) (hne : cs ≠ []) (hy : tev s y = .c (.p (.sc (.int k i)))) (hi : i = (j : Int)) (hj : j < n) :
    PureD P ⟨dst, .indexAddr t x y, ty, pos, after, none⟩ s (.c (.ptr b (off + j * z))) := p_ixs hd hx0 ht hI.sz hx hb hne hy hi hj
end
/-- The front of an array that is only read, as a row. -/
theorem OpW_cut_ar {P : Program} {K : AS → Prop} {s : AS} {dst : Option Tmp} {ty : TypeId} {pos : String} {after : Array Edge} {t e : TypeId} {x : Operand} {hi : Option Operand} {h n z off : Nat} {cs : List AV} (hx : aev s x = .rptr cs off) (ht : P.underlying t = some (.array n e)) (hz : (P.info? e).map (·.size) = some z) (hh : bnd s hi n h) (h2 : h ≤ n) (hd : dOk s dst = true)
    (hk : K (s.put dst (.lst ((cs.drop off).take (h * z)) h))) : OpW P ⟨dst, .slice t x none hi none, ty, pos, after, none⟩ K s := by
  refine OpW_same hd (fun Z a w r => ?_) hk
  have hv := aev_rel r x
  rw [hx] at hv
  generalize hu : a.eval x = u at hv
  cases hv with
  | rptr _ _ b off' f hzb hs hr =>
    have hb := run_bounds (P := P) (c := n) (mx := none) (lo := none) (l := 0) r false rfl hh rfl (fun hc => by simp at hc) (Nat.zero_le _) h2 (Nat.le_refl _)
    simp only [Option.map_none] at hb
    have hget : ∀ (i : Nat) (a : AV), ((cs.drop off).take (h * z))[i]? = some a → cs[off + i]? = some a := by
      intro i a ha
      rw [List.getElem?_take] at ha
      split at ha
      · rwa [List.getElem?_drop] at ha
      · cases ha
    refine ⟨.slice (some ⟨b, off' + off, none⟩) h n, ?_, .lst _ h n b (off' + off) (fun i => f (off + i)) h2 hzb (fun i a ha => by rw [Nat.add_assoc]; exact hs _ a (hget i a ha)) (fun i a ha => hr _ a (hget i a ha))⟩
    simp only [execOp, Instr.sliceAt, hu, Instr.sureAddr]
    simp [run_underlying ht, hb, info_run hz]
    intro _
    rw [add_none]
    simp
section
variable {P : Program} {s : TS} {dst : Option Tmp} {ty : TypeId} {pos : String} {after : Array Edge}
theorem u_cutar {α : Type} {g : List α → List AV} {l : List α} {t e : TypeId} {x : Operand} {hi : Option Operand} {cs : List AV} {off n z by' h : Nat} {zv : Value} (hd : dOk2 s dst = true) (hx0 : isConst x = false) (ht : P.underlying t = some (.array n e)) (hI : Info P e z by' zv) (hx : tev s x = .c (.p (.rptr cs off))) (S : Sub cs off (g l)) (hl : l.length = n) (hlg : (g l).length = n * z) (hh : bndT s hi n h) (h2 : h ≤ n) (hg : ∀ (l : List α) (i n : Nat), ((g l).drop (i * z)).take (n * z) = g ((l.drop i).take n)) :
    PureD P ⟨dst, .slice t x none hi none, ty, pos, after, none⟩ s (.c (.p (.lst (g (l.take h)) (l.take h).length))) := by
  refine PureD_same fun m hp n' hm K hk => OpW_cut_ar (by rw [aev_eq hx0, hx]; rfl) ht hI.sz (bnd_can hh) h2 (dOk_can hd) (hk _ ?_)
  have e1 : (cs.drop off).take (h * z) = g (l.take h) := by
    have h3 := hg l 0 h
    rw [Nat.zero_mul, List.drop_zero, List.drop_zero] at h3
    rw [← h3, ← S.take hlg, List.take_take, Nat.min_eq_left (Nat.mul_le_mul_right _ h2)]
  rw [e1, List.length_take, hl, Nat.min_eq_left h2]
  exact .same _
end
/-- 'append', and the row is given away at once. -/
theorem AppD.pub {P : Program} {o : Oper} {s : TS} {b n z : Nat} {cs : List AV} (h : AppD P o s (.c (.own b n z)) b (.pure cs)) (hl : cs.length = n * z) (hz : 0 < z) : AppD P o s (.c (.p (.lst cs n))) b (.pure []) := by
  intro m h1 n1 hm Z a w r next Q hn
  refine h m h1 n1 hm Z a w r next Q ?_
  rintro s' Z' a' w' ⟨ro, h', n', av, rfl, hle, hcase, hoth⟩ rs x
  rcases hcase with ⟨r0, rfl, hr0⟩ | ⟨rfl, h0⟩
  · have hr0 : h' r0 = some cs := hr0
    have hsub : ∀ q o, (h'.set r0 none) q = some o → h' q = some o := by
      intro q o hq
      by_cases hq2 : q = r0
      · rw [hq2, Heap.set_eq] at hq; cases hq
      · rw [Heap.set_ne _ _ _ _ hq2] at hq; exact hq
    have hd0 : hdiff h' (h'.set r0 none) r0 = some cs := by
      rw [hdiff_of (Heap.set_eq _ _ _), hr0]
    have hlent : Lent (hdiff h' (h'.set r0 none)) (.sl r0 0 n z) (.lst cs n) := by
      have := Lent.sl r0 0 n z cs hd0 (by omega)
      rwa [List.drop_zero, List.take_of_length_le (by omega)] at this
    have hle2 : Les av (.sl r0 0 n z) := by
      have := hle
      simp only [TV.rn, T1.rn, nset_eq] at this
      exact this
    have rs2 : SR Z' ((AS.mk (can m s h1 n1).t h' n' s.sz).put o.dst (.sl r0 0 n z)) a' w' := by
      refine ⟨fun u => ?_, ?_, rs.df, ?_, ?_, ?_⟩
      · by_cases hu : o.dst = some u
        · have h2 := rs.tm u
          rw [putG_eq hu] at h2 ⊢
          exact hle2 _ _ _ h2
        · have h2 := rs.tm u
          rw [putG_ne hu] at h2 ⊢
          exact h2
      · have := rs.ts; rw [putG_sz] at this ⊢; exact this
      · have := rs.gd; rw [putG_h] at this ⊢; exact this
      · have := rs.hn; rw [putG_n] at this ⊢; exact this
      · have := rs.hl; rw [putG_h, putG_n] at this ⊢; exact this
    obtain ⟨r3, x3⟩ := rs2.drop (t' := ((AS.mk (can m s h1 n1).t (h'.set r0 none) n' s.sz).put o.dst (.lst cs n)).t) (h' := h'.set r0 none) (n' := n') (by rw [putG_h]; exact hsub) (fun u => by
      by_cases hu : o.dst = some u
      · right
        rw [putG_eq hu, putG_eq hu, putG_h]
        exact hlent
      · left
        rw [putG_ne hu, putG_ne hu]) (by have := rs2.hn; rw [putG_n] at this; exact this) (fun q o' hq => by
          have := rs2.hl
          rw [putG_h, putG_n] at this
          exact this q o' (hsub q o' hq))
    have hst : (⟨((AS.mk (can m s h1 n1).t (h'.set r0 none) n' s.sz).put o.dst (.lst cs n)).t, h'.set r0 none, n', ((AS.mk (can m s h1 n1).t h' n' s.sz).put o.dst (.sl r0 0 n z)).sz⟩ : AS) = (AS.mk (can m s h1 n1).t (h'.set r0 none) n' s.sz).put o.dst (.lst cs n) := by
      cases o.dst <;> rfl
    rw [hst] at r3
    refine hn _ _ _ _ ⟨none, h'.set r0 none, n', .lst cs n, rfl, .same _, .inr ⟨rfl, rfl⟩, fun q hq hmq => ?_⟩ r3 ?_
    · obtain ⟨h3, h4⟩ := hoth q hq hmq
      exact ⟨by rw [Heap.set_ne _ _ _ _ (fun e => h4 (by rw [e])), h3], by simp⟩
    · clear rs rs2 r3 hst hn
      cases hod : o.dst with
      | none => rw [hod] at x x3; exact x.trans x3
      | some d => rw [hod] at x x3; exact x.trans x3
  · have h00 : cs = [] := h0
    subst h00
    have hn0 : n = 0 := by
      rcases Nat.eq_zero_or_pos n with h3 | h3
      · exact h3
      · have := Nat.mul_pos h3 hz
        simp at hl
        omega
    subst hn0
    have hle2 : Les av .nil := by
      have := hle
      simp only [TV.rn, T1.rn, nset_eq] at this
      exact this
    exact hn _ _ _ _ ⟨none, h', n', av, rfl, hle2.trans .nil, .inr ⟨rfl, rfl⟩, hoth⟩ rs x
end Go.Proofs.Ytglgdaeimfdpfaa.VM
