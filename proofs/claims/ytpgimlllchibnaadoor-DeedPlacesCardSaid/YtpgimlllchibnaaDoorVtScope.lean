/- Words and rules that the proof uses. -/
import Derived.Test.YtpgimlllchibnaaDoorVtLoop
import Derived.ScopeJumps
namespace Go.Proofs.YtpgimlllchibnaaDoor.VM
open Go Go.RowKit
def jumpQ (l : Nat) (J : AS → Prop) (Q : Go.Exit → AS → Prop) : Go.Exit → AS → Prop
 | .goto l', s => l' = l ∧ J s
 | e, s => Q e s
theorem AW_scope {P : Program} {Q : Go.Exit → AS → Prop} {s : AS} {c rest : Code} (l : Nat) (hf : findLabel c l = some rest) (I : Nat → AS → Prop)
  (first : AW P c (jumpQ l (fun s' => ∃ n, I n s') Q) s) (pass : ∀ n s, I n s → AW P rest (jumpQ l (fun s' => ∃ m, m < n ∧ I m s') Q) s) : AW P (.scope c) Q s := by
 intro Z a w r b k cs
 have hg : gotoIn l (.inScope c :: k) = some (.code rest :: .inScope c :: k) := by simp [gotoIn, hf]
 have key : ∀ n s1 Z1 a1 w1, I n s1 → SR Z1 s1 a1 w1 → Ext s.h Z w s1.h Z1 w1 → ∃ e a' w', (∃ s' Z', Q e s' ∧ SR Z' s' a' w' ∧ Ext s.h Z w s'.h Z' w') ∧ Arrives P (lone (b.at a1 (.code rest :: .inScope c :: k)) cs w1) b k cs e a' w' := by
  intro n
  induction n using Nat.strongRecOn with
  | _ n ih =>
   intro s1 Z1 a1 w1 hI r1 x1
   obtain ⟨e, a₁, w₁, ⟨s2, Z2, hq, r2, x2⟩, harr⟩ := pass n s1 hI Z1 a1 w1 r1 b (.inScope c :: k) cs
   cases e with
   | normal => exact ⟨.normal, a₁, w₁, ⟨s2, Z2, hq, r2, x1.trans x2⟩, Steps.trans harr (.one step_inScope)⟩
   | exit id => exact ⟨.exit id, a₁, w₁, ⟨s2, Z2, hq, r2, x1.trans x2⟩, fun k' hk => harr k' (by simp [exitTo, hk])⟩
   | goto l' =>
    obtain ⟨rfl, m, hlt, hJ'⟩ := hq
    obtain ⟨e₂, a₂, w₂, hq₂, harr₂⟩ := ih m hlt s2 Z2 a₁ w₁ hJ' r2 (x1.trans x2)
    exact ⟨e₂, a₂, w₂, hq₂, .of_steps (harr _ hg) harr₂⟩
   | ret => exact ⟨_, a₁, w₁, ⟨s2, Z2, hq, r2, x1.trans x2⟩, harr⟩
   | panic ch => exact ⟨_, a₁, w₁, ⟨s2, Z2, hq, r2, x1.trans x2⟩, harr⟩
   | outgrown => exact ⟨_, a₁, w₁, ⟨s2, Z2, hq, r2, x1.trans x2⟩, harr⟩
 obtain ⟨e, a₁, w₁, ⟨s2, Z2, hq, r2, x2⟩, harr⟩ := first Z a w r b (.inScope c :: k) cs
 cases e with
 | normal => exact ⟨.normal, a₁, w₁, ⟨s2, Z2, hq, r2, x2⟩, .head step_scope (Steps.trans harr (.one step_inScope))⟩
 | exit id => exact ⟨.exit id, a₁, w₁, ⟨s2, Z2, hq, r2, x2⟩, fun k' hk => .head step_scope (harr k' (by simp [exitTo, hk]))⟩
 | goto l' =>
  obtain ⟨rfl, n, hJ'⟩ := hq
  obtain ⟨e₂, a₂, w₂, hq₂, harr₂⟩ := key n s2 Z2 a₁ w₁ hJ' r2 x2
  exact ⟨e₂, a₂, w₂, hq₂, .of_steps (.head step_scope (harr _ hg)) harr₂⟩
 | ret => exact ⟨_, a₁, w₁, ⟨s2, Z2, hq, r2, x2⟩, .of_steps (.one step_scope) harr⟩
 | panic ch => exact ⟨_, a₁, w₁, ⟨s2, Z2, hq, r2, x2⟩, .of_steps (.one step_scope) harr⟩
 | outgrown => exact ⟨_, a₁, w₁, ⟨s2, Z2, hq, r2, x2⟩, .of_steps (.one step_scope) harr⟩
def scopeQ {α β : Type} (l : Nat) (S : α → TS) (R : β → Go.Exit → TS → Prop) : α ⊕ β → Go.Exit → TS → Prop
 | .inl b, e, s => e = .goto l ∧ s = S b
 | .inr y, e, s => R y e s
def noGotoQ (Q : Go.Exit → TS → Prop) : Go.Exit → TS → Prop
 | .goto _, _ => False
 | e, s => Q e s
def InScope (P : Program) (l : Nat) (rest : Code) (Q : Go.Exit → TS → Prop) (s : TS) : Prop :=
 ∃ (α β : Type) (S : α → TS) (R : β → Go.Exit → TS → Prop) (step : α → Option (α ⊕ β)) (a : α) (r : β), loopO step a = some r ∧ S a = s ∧ (∀ a x, step a = some x → AW2 P rest (scopeQ l S R x) (S a)) ∧ ∀ e s', R r e s' → (∀ l', e ≠ .goto l') ∧ Q e s'
theorem inScope_loopO {P : Program} {l : Nat} {rest : Code} {Q : Go.Exit → TS → Prop} {s : TS} {α β : Type} (S : α → TS) (R : β → Go.Exit → TS → Prop) {step : α → Option (α ⊕ β)} {a : α} {r : β} (H : loopO step a = some r) (hs : S a = s)
  (round : ∀ a x, step a = some x → AW2 P rest (scopeQ l S R x) (S a)) (hq : ∀ e s', R r e s' → (∀ l', e ≠ .goto l') ∧ Q e s') : InScope P l rest Q s := ⟨α, β, S, R, step, a, r, H, hs, round, hq⟩
theorem AW2_scope {P : Program} {a1 rest : Code} {Q : Go.Exit → TS → Prop} {s : TS} {l : Nat} (hf : findLabel (.seq a1 (.seq (.label l) rest)) l = some (.seq .skip rest))
  (h : AW2 P a1 (thenQ2 (InScope P l rest Q) (noGotoQ Q)) s) : AW2 P (.scope (.seq a1 (.seq (.label l) rest))) Q s := by
 intro m h1 n hm
 let I : Nat → AS → Prop := fun j s1 => ∃ (α β : Type) (S : α → TS) (R : β → Go.Exit → TS → Prop) (step : α → Option (α ⊕ β)) (b : α) (r : β) (m2 : Nm),
  loopN step j b = some r ∧ (∀ a x, step a = some x → AW2 P rest (scopeQ l S R x) (S a)) ∧ (∀ e s', R r e s' → (∀ l', e ≠ .goto l') ∧ Q e s') ∧ Pin m m2 ∧ Fit m2 (S b) s1
 let Q1 : Go.Exit → AS → Prop := fun e s1 => ∃ s' m', Q e s' ∧ Pin m m' ∧ Fit m' s' s1
 have pass : ∀ j s1, I j s1 → AW P rest (jumpQ l (fun s' => ∃ i, i < j ∧ I i s') Q1) s1 := by
  rintro j s1 ⟨α, β, S, R, step, b, r, m2, hb, round, hq, pn, f⟩
  cases j with
  | zero => cases hb
  | succ j =>
   simp only [loopN] at hb
   split at hb
   ·cases hb
   ·rename_i b2 h2
    refine (f.aw (round b _ h2)).mono ?_
    rintro e s2 ⟨s', m', ⟨rfl, rfl⟩, pn', f'⟩
    exact ⟨rfl, j, by omega, α, β, S, R, step, b2, r, m', hb, round, hq, pn.trans pn', f'⟩
   ·rename_i y hy
    cases hb
    refine (f.aw (round b _ hy)).mono ?_
    rintro e s2 ⟨s', m', q, pn', f'⟩
    obtain ⟨h3, h4⟩ := hq e s' q
    cases e with
    | goto l' => exact absurd rfl (h3 l')
    | _ => exact ⟨s', m', h4, pn.trans pn', f'⟩
 refine AW_scope l hf I ?_ ?_
 ·refine AW_seq ((h m h1 n hm).mono ?_)
  rintro e s1 ⟨s', m', q, pn, f⟩
  cases e with
  | normal =>
   obtain ⟨α, β, S, R, step, a, r, H, rfl, round, hq⟩ := q
   obtain ⟨k, hk⟩ := loopO_to H
   refine AW_seq (AW_label ?_)
   refine (pass k s1 ⟨α, β, S, R, step, a, r, m', hk, round, hq, pn, f⟩).mono ?_
   intro e s2 q
   cases e with
   | goto l' => exact ⟨q.1, q.2.choose, q.2.choose_spec.2⟩
   | _ => exact q
  | goto l' => exact q.elim
  | _ => exact ⟨s', m', q, pn, f⟩
 ·intro j s1 hI
  refine AW_seq (AW_skip (pass j s1 hI))
theorem inScope_gho {P : Program} {l : Nat} {rest : Code} {Q : Go.Exit → TS → Prop} {s s' : TS} (g : Gho s s') (h : InScope P l rest Q s') : InScope P l rest Q s := by
 obtain ⟨α, β, S, R, step, a, r, H, rfl, round, hq⟩ := h
 let up : α ⊕ β → Option α ⊕ β := fun x => match x with | .inl b => .inl (some b) | .inr y => .inr y
 let step2 : Option α → Option (Option α ⊕ β) := fun o => match o with | none => (step a).map up | some b => (step b).map up
 have hl : ∀ k b, loopN step k b = some r → loopN step2 k (some b) = some r ∧ (b = a → loopN step2 k none = some r) := by
  intro k
  induction k with
  | zero => intro b h; cases h
  | succ k ih =>
   intro b h
   simp only [loopN] at h
   have key : ∀ o, step2 o = (step b).map up → loopN step2 (k + 1) o = some r := by
    intro o ho
    simp only [loopN, ho]
    split at h
    ·cases h
    ·rename_i c hc
     rw [hc]
     exact (ih c h).1
    ·rename_i y hy
     rw [hy]
     exact h
   exact ⟨key _ rfl, fun hb => key _ (by subst hb; rfl)⟩
 obtain ⟨k, hk⟩ := loopO_to H
 refine ⟨Option α, β, fun o => match o with | none => s | some b => S b, R, step2, none, r, loopO_of ((hl k a hk).2 rfl), rfl, ?_, hq⟩
 intro o x hx
 cases o with
 | none =>
  obtain ⟨x0, h0, rfl⟩ := Option.map_eq_some_iff.1 hx
  refine AW2_gho g ((round a x0 h0).mono fun e s1 q => ?_)
  cases x0 <;> exact q
 | some b =>
  obtain ⟨x0, h0, rfl⟩ := Option.map_eq_some_iff.1 hx
  refine (round b x0 h0).mono fun e s1 q => ?_
  cases x0 <;> exact q
theorem inScope_st {P : Program} {l : Nat} {rest : Code} {Q : Go.Exit → TS → Prop} {s : TS} (L : List (Nat × TV)) (H : Hp) {N : Nat} (hN : s.sz = N) (hl : TFits s L) (hh : HFits s H) (h : InScope P l rest Q ⟨L, H, N⟩) : InScope P l rest Q s := inScope_gho (Gho_st hN hl hh) h
theorem thenQ2_exit {next : TS → Prop} {Q : Go.Exit → TS → Prop} {id : Nat} {s : TS} (h : Q (.exit id) s) : thenQ2 next Q (.exit id) s := h
theorem thenQ2_goto {next : TS → Prop} {Q : Go.Exit → TS → Prop} {id : Nat} {s : TS} (h : Q (.goto id) s) : thenQ2 next Q (.goto id) s := h
theorem blockQ2_goto {Q : Go.Exit → TS → Prop} {b id : Nat} {s : TS} (h : Q (.goto id) s) : blockQ2 b Q (.goto id) s := h
theorem chkK {α : Type} {c : Prop} [Decidable c] {e : Option α} {r : α} {p : Prop} (h : (if c then e else none) = some r) (k : c → e = some r → p) : p := k (chk_elim h).1 (chk_elim h).2
theorem bindK {α β : Type} {e : Option α} {f : α → Option β} {r : β} {p : Prop} (h : e.bind f = some r) (k : ∀ x, e = some x → f x = some r → p) : p := by
 obtain ⟨x, h1, h2⟩ := bind_elim h
 exact k x h1 h2
end Go.Proofs.YtpgimlllchibnaaDoor.VM
