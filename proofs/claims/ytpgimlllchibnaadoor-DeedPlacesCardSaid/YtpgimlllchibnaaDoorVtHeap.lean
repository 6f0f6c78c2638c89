/- Words and rules that the proof uses. -/
import Derived.Test.YtpgimlllchibnaaDoorVtRule
namespace Go.Proofs.YtpgimlllchibnaaDoor.VM
open Go Go.RowKit
def hdiff (h hc : Heap) : Heap := fun b => match hc b with
 | some _ => none
 | none => h b
theorem hdiff_some {h hc : Heap} {b : Nat} {o : List AV} (e : hdiff h hc b = some o) : hc b = none ∧ h b = some o := by
 unfold hdiff at e
 split at e
 ·cases e
 ·exact ⟨‹_›, e⟩
def rnm (ρ : List (Nat × Nat)) (b : Nat) : Nat := look b ρ b
def T1.ren (ρ : List (Nat × Nat)) : T1 → T1
 | .p x => .p x
 | .own b n z => .own (rnm ρ b) n z
 | .sl b off n z => .sl (rnm ρ b) off n z
 | .ptr b off => .ptr (rnm ρ b) off
 | .mref b => .mref (rnm ρ b)
def TV.ren (ρ : List (Nat × Nat)) : TV → TV
 | .c x => .c (x.ren ρ)
 | .tup vs => .tup (vs.map (T1.ren ρ))
 | .agg cs => .agg (cs.map (T1.ren ρ))
 | .clo f cap => .clo f (cap.map (T1.ren ρ))
def Blk.ren (ρ : List (Nat × Nat)) : Blk → Blk
 | .pure cs => .pure cs
 | .mix cs => .mix (cs.map (T1.ren ρ))
theorem get_mem : ∀ {h : Hp} {b : Nat} {k : Blk}, h.get b = some k → (b, k) ∈ h
 | [], _, _, e => by cases e
 | (c, v) :: l, b, k, e => by
  rw [Hp.get_cons] at e
  split at e
  ·rename_i hb
   cases e
   rw [hb]
   exact List.mem_cons_self
  ·exact List.mem_cons_of_mem _ (get_mem e)
def HFitsR (s : TS) (ρ : List (Nat × Nat)) : Hp → Prop
 | [] => True
 | (b, k) :: l => s.h.get (rnm ρ b) = some (k.ren ρ) ∧ HFitsR s ρ l
theorem HFitsR.mem {s : TS} {ρ : List (Nat × Nat)} : ∀ {L : Hp} (_ : HFitsR s ρ L) {b : Nat} {k : Blk}, (b, k) ∈ L → s.h.get (rnm ρ b) = some (k.ren ρ)
 | [], _, _, _, e => by cases e
 | (c, v) :: l, h, b, k, e => by
  rcases List.mem_cons.1 e with e | e
  ·cases e; exact h.1
  ·exact HFitsR.mem h.2 e
open Classical in
noncomputable def partH (ch : Hp) (mc : Nm) (h1 : Heap) : Heap := fun q => if ∃ b k, ch.get b = some k ∧ mc b = some q then h1 q else none
section calls
variable {P : Program} {s : TS} {ty : TypeId} {pos : String} {after : Array Edge}
def LendC (s : TS) (c : T1) (a : AV) : Prop := ∀ m h1, HM m s.h h1 → Lent h1 (c.rn m) a
def Blk.cln : Blk → Bool
 | .pure cs => cs.all noLst1
 | .mix cs => cs.all fun c => match c with | .p x => noLst1 x | _ => true
theorem Blk.cln_cells {k : Blk} (h : k.cln = true) (m : Nm) : (k.cells m).all noLst1 = true := by
 cases k with
 | pure cs => exact h
 | mix cs =>
  simp only [Blk.cln, List.all_eq_true] at h
  simp only [Blk.cells, List.all_map, List.all_eq_true]
  intro c hc
  have := h c hc
  cases c with
  | p x => exact this
  | own b n z =>
   simp only [Function.comp, T1.rn]
   cases m b <;> rfl
  | sl b off n z =>
   simp only [Function.comp, T1.rn]
   cases m b <;> rfl
  | ptr b off =>
   simp only [Function.comp, T1.rn]
   cases m b <;> rfl
  | mref b =>
   simp only [Function.comp, T1.rn]
   cases m b <;> rfl
def ClnAll : Hp → Prop
 | [] => True
 | (_, k) :: l => k.cln = true ∧ ClnAll l
theorem ClnAll.mem : ∀ {L : Hp} (_ : ClnAll L) {b : Nat} {k : Blk}, (b, k) ∈ L → k.cln = true
 | [], _, _, _, e => by cases e
 | (c, v) :: l, h, b, k, e => by
  rcases List.mem_cons.1 e with e | e
  ·cases e; exact h.1
  ·exact ClnAll.mem h.2 e
theorem HM.clean {m : Nm} {ch : Hp} {hr : Heap} (hm : HM m ch hr) (hc : ClnAll ch) : HM m ch hr.clean := by
 refine ⟨fun b k hk => ?_, hm.inj⟩
 rcases hm.blk b k hk with ⟨q, h1, h2⟩ | h
 ·refine .inl ⟨q, h1, ?_⟩
  unfold Heap.clean
  rw [h2]
  simp only
  rw [if_pos (Blk.cln_cells (hc.mem (get_mem hk)) m)]
 ·exact .inr h
end calls
theorem lent_own {m : Nm} {h : Hp} {h1 : Heap} {b n z : Nat} {cs : List AV} (hm : HM m h h1) (hb : h.get b = some (.pure cs)) (hl : cs.length = n * z) (hz : 0 < z) : Lent h1 ((T1.own b n z).rn m) (.lst cs n) := by
 rcases hm.blk b _ hb with ⟨r, hr, hh⟩ | ⟨hr, hc⟩
 ·simp only [T1.rn, hr]
  have := Lent.sl (h := h1) r 0 n z cs hh (by omega)
  rwa [List.drop_zero, List.take_of_length_le (by omega)] at this
 ·simp only [T1.rn, hr]
  have hc2 : cs = [] := hc
  subst hc2
  have : n = 0 := by
   rcases Nat.eq_zero_or_pos n with h0 | h0
   ·exact h0
   ·have := Nat.mul_pos h0 hz
    simp at hl
    omega
  subst this
  exact .nil
theorem ACp_pub {P : Program} {f : FuncId} {args : List AV} {r : TV} {ch' : Hp} {av : AV} (h : AC2 P f (pureT args) [] r ch') (hp : ∀ m h1, HM m ch' h1 → Lent h1 (r.rn m) av) : ACp P f args av := by
 have h2 := h (fun _ => none) Heap.empty (hm_nil _) (fun q o hq => by cases hq)
 have hpt : (pureT args).map (TV.rn fun _ => none) = args := by
  simp only [pureT, List.map_map]
  rw [show (TV.rn (fun _ => none) ∘ fun x => TV.c (.p x)) = id from rfl]
  simp
 rw [hpt] at h2
 intro Z w vs g hl hv
 refine (h2 Z w vs g hl hv).mono ?_
 rintro e w' ⟨v, r1, h1', Z', rfl, ⟨m', _, hm', rfl⟩, hrel, gr, ex⟩
 refine ⟨v, av, Heap.empty, fun b => Z' b ∨ h1' b ≠ none, rfl, rfl, (hp m' h1' hm').rel gr hrel, ⟨fun b hb => ?_, (fun b o hb => by cases hb), (fun b o hb => by cases hb), gr.tb.mono fun _ h => .inl h⟩, ex.os, ex.tape, ex.output, ex.size, ex.keep, ex.shp, fun b hb => absurd rfl hb, fun b hb => .inl (ex.zz b hb), fun b hb => ?_⟩
 ·rcases hb with h3 | h3
  ·exact gr.zb b h3
  ·obtain ⟨o, ho⟩ := Option.ne_none_iff_exists'.1 h3
   exact gr.lt ho
 ·rcases hb with h3 | h3
  ·exact ex.zf b h3
  ·exact .inr (ex.own b h3)
end Go.Proofs.YtpgimlllchibnaaDoor.VM
