import Derived.Test.YthnkbagmaljjjaaDoorVtTyped
import Derived.ScopeJumps
/- Words and rules that the proof uses. -/
namespace Go.Proofs.YthnkbagmaljjjaaDoor.VM
open Go Go.RowKit
theorem w64_id {n : Int} (h : -9223372036854775808 ≤ n ∧ n ≤ 9223372036854775807) : w64 n = n := wrap64 h
theorem loopO_rule {α β : Type} {step : α → Option (α ⊕ β)} (I : α → Prop) (Q : β → Prop) (m : α → Nat) (h : ∀ a, I a → (∃ b, step a = some (.inl b) ∧ I b ∧ m b < m a) ∨ ∃ r, step a = some (.inr r) ∧ Q r) {a : α} (ha : I a) : ∃ r, loopO step a = some r ∧ Q r := by
 generalize hn : m a = n
 induction n using Nat.strongRecOn generalizing a with
 | ind n ih =>
  rcases h a ha with ⟨b, h1, h2, h3⟩ | ⟨r, h1, h2⟩
  ·obtain ⟨r, h4, h5⟩ := ih (m b) (by omega) h2 rfl
   exact ⟨r, by rw [loopO_next h1]; exact h4, h5⟩
  ·exact ⟨r, loopO_done h1, h2⟩
theorem loopO_two {α γ β : Type} {step : α → Option (α ⊕ β)} {step2 : γ → Option (γ ⊕ β)} (R : α → γ → Prop) (m : α → Nat) (h : ∀ a c, R a c → (∃ b d, step a = some (.inl b) ∧ step2 c = some (.inl d) ∧ R b d ∧ m b < m a) ∨ ∃ r, step a = some (.inr r) ∧ step2 c = some (.inr r)) {a : α} {c : γ} (ha : R a c) : ∃ r, loopO step a = some r ∧ loopO step2 c = some r := by
 generalize hn : m a = n
 induction n using Nat.strongRecOn generalizing a c with
 | ind n ih =>
  rcases h a c ha with ⟨b, d, h1, h2, h3, h4⟩ | ⟨r, h1, h2⟩
  ·obtain ⟨r, h5, h6⟩ := ih (m b) (by omega) h3 rfl
   exact ⟨r, by rw [loopO_next h1]; exact h5, by rw [loopO_next h2]; exact h6⟩
  ·exact ⟨r, loopO_done h1, loopO_done h2⟩
theorem lrd_at {α : Type} [Inhabited α] {l : List α} {j : Nat} (h : j < l.length) : lrd l j = l[j] := by simp [lrd, List.getD, h]
theorem take_step {α : Type} [Inhabited α] {l : List α} {j : Nat} (h : j < l.length) : l.take (j + 1) = l.take j ++ [lrd l j] := by
 rw [lrd_at h, List.take_append_getElem h]
theorem drop_step {α : Type} [Inhabited α] {l : List α} {j : Nat} (h : j < l.length) : l.drop j = lrd l j :: l.drop (j + 1) := by
 rw [lrd_at h, List.drop_eq_getElem_cons h]
theorem lrd_mem {α : Type} [Inhabited α] {l : List α} {j : Nat} (h : j < l.length) : lrd l j ∈ l := by
 rw [lrd_at h]; exact List.getElem_mem h
end Go.Proofs.YthnkbagmaljjjaaDoor.VM

/- Words and rules that the proof uses. -/
namespace Go.Proofs.YthnkbagmaljjjaaDoor.VM
open Go Go.RowKit
theorem thenQ2_exit {next : TS → Prop} {Q : Go.Exit → TS → Prop} {id : Nat} {s : TS} (h : Q (.exit id) s) : thenQ2 next Q (.exit id) s := h
theorem chkK {α : Type} {c : Prop} [Decidable c] {e : Option α} {r : α} {p : Prop} (h : (if c then e else none) = some r) (k : c → e = some r → p) : p := k (chk_elim h).1 (chk_elim h).2
theorem bindK {α β : Type} {e : Option α} {f : α → Option β} {r : β} {p : Prop} (h : e.bind f = some r) (k : ∀ x, e = some x → f x = some r → p) : p := by
 obtain ⟨x, h1, h2⟩ := bind_elim h
 exact k x h1 h2
end Go.Proofs.YthnkbagmaljjjaaDoor.VM

/- Words and rules that the proof uses. -/
namespace Go.Proofs.YthnkbagmaljjjaaDoor.VM
open Go Go.RowKit
theorem vrd_at {α : Type} [Inhabited α] {n : Nat} {v : Vector α n} {j : Nat} (h : j < n) : vrd v j = v[j] := by
 simp [vrd, List.getD, h]
theorem vrd_vwr_eq {α : Type} [Inhabited α] {n : Nat} {v : Vector α n} {j : Nat} {x : α} (h : j < n) : vrd (vwr v j x) j = x := by
 rw [vrd_at h]; simp [vwr]
theorem vrd_vwr_ne {α : Type} [Inhabited α] {n : Nat} {v : Vector α n} {i j : Nat} {x : α} (hi : i < n) (h : i ≠ j) : vrd (vwr v j x) i = vrd v i := by
 rw [vrd_at hi, vrd_at hi]; simp [vwr, Vector.getElem_setIfInBounds, Ne.symm h]
theorem lrd_vec {α : Type} [Inhabited α] {n : Nat} (v : Vector α n) (j : Nat) : lrd v.toList j = vrd v j := rfl
theorem w64_succ {k : Nat} (h : k < 9223372036854775807) : w64 ((k : Int) + 1) = ((k + 1 : Nat) : Int) := by
 rw [w64_id (by omega)]; omega
theorem natIn {k n : Nat} (h : k < n) : (0 : Int) ≤ (k : Int) ∧ (k : Int) < (n : Int) := by omega
theorem natLt {k n : Nat} (h : k < n) : (k : Int) < (n : Int) := by omega
theorem natNlt {n : Nat} : ¬ ((n : Int) < (n : Int)) := by omega
def goL {α σ β : Type} (f : Nat → α → σ → σ ⊕ β) (fin : σ → β) : List α → Nat → σ → β
 | [], _, s => fin s
 | x :: l, k, s => match f k x s with | .inl s' => goL f fin l (k + 1) s' | .inr r => r
theorem loopO_goL {τ σ β α : Type} [Inhabited α] {step : τ → Option (τ ⊕ β)} (l : List α) (enc : Nat → σ → τ) (f : Nat → α → σ → σ ⊕ β) (fin : σ → β) (I : Nat → σ → Prop)
  (hs : ∀ k s, k < l.length → I k s → step (enc k s) = some (match f k (lrd l k) s with | .inl s' => .inl (enc (k + 1) s') | .inr r => .inr r) ∧ ∀ s', f k (lrd l k) s = .inl s' → I (k + 1) s')
  (he : ∀ s, I l.length s → step (enc l.length s) = some (.inr (fin s))) {s : σ} (h0 : I 0 s) : loopO step (enc 0 s) = some (goL f fin l 0 s) := by
 have key : ∀ (m : List α) (k : Nat) (s : σ), l.drop k = m → k ≤ l.length → I k s → loopO step (enc k s) = some (goL f fin m k s) := by
  intro m
  induction m with
  | nil =>
   intro k s hm hk hi
   have : k = l.length := by
    have := congrArg List.length hm
    simp at this
    omega
   subst this
   exact loopO_done (he s hi)
  | cons x m ih =>
   intro k s hm hk hi
   have hlt : k < l.length := by
    rcases Nat.lt_or_ge k l.length with h | h
    ·exact h
    ·rw [List.drop_eq_nil_of_le h] at hm
     cases hm
   rw [drop_step hlt] at hm
   obtain ⟨hx, hm⟩ := List.cons.inj hm
   obtain ⟨h1, h2⟩ := hs k s hlt hi
   rw [hx] at h1 h2
   simp only [goL]
   cases hf : f k x s with
   | inl s' =>
    rw [hf] at h1
    rw [loopO_next h1]
    exact ih (k + 1) s' hm hlt (h2 s' hf)
   | inr r =>
    rw [hf] at h1
    exact loopO_done h1
 exact key l 0 s rfl (Nat.zero_le _) h0
theorem loopO_times {τ σ β : Type} {step : τ → Option (τ ⊕ β)} (n : Nat) (enc : Nat → σ → τ) (I : Nat → σ → Prop) (Q : β → Prop)
  (hs : ∀ k s, k < n → I k s → (∃ s', step (enc k s) = some (.inl (enc (k + 1) s')) ∧ I (k + 1) s') ∨ ∃ r, step (enc k s) = some (.inr r) ∧ Q r)
  (he : ∀ s, I n s → ∃ r, step (enc n s) = some (.inr r) ∧ Q r) {s : σ} (h0 : I 0 s) : ∃ r, loopO step (enc 0 s) = some r ∧ Q r := by
 have key : ∀ (m k : Nat) (s : σ), k + m = n → I k s → ∃ r, loopO step (enc k s) = some r ∧ Q r := by
  intro m
  induction m with
  | zero =>
   intro k s hk hi
   have : k = n := by omega
   subst this
   obtain ⟨r, h1, h2⟩ := he s hi
   exact ⟨r, loopO_done h1, h2⟩
  | succ m ih =>
   intro k s hk hi
   rcases hs k s (by omega) hi with ⟨s', h1, h2⟩ | ⟨r, h1, h2⟩
   ·obtain ⟨r, h3, h4⟩ := ih (k + 1) s' (by omega) h2
    exact ⟨r, by rw [loopO_next h1]; exact h3, h4⟩
   ·exact ⟨r, loopO_done h1, h2⟩
 exact key n 0 s (by omega) h0
end Go.Proofs.YthnkbagmaljjjaaDoor.VM

/- Words and rules that the proof uses. -/
namespace Go.Proofs.YthnkbagmaljjjaaDoor.VM
open Go Go.RowKit
def hdiff (h hc : Heap) : Heap := fun b => match hc b with
 | some _ => none
 | none => h b
theorem hdiff_some {h hc : Heap} {b : Nat} {o : List AV} (e : hdiff h hc b = some o) : hc b = none ∧ h b = some o := by
 unfold hdiff at e
 split at e
 ·cases e
 ·exact ⟨‹_›, e⟩
def rnm (ρ : List (Nat × Nat)) (b : Nat) : Nat := look b ρ b
def T1.ren (ρ : List (Nat × Nat)) : T1 → T1
 | .p x => .p x
 | .own b n z => .own (rnm ρ b) n z
 | .sl b off n z => .sl (rnm ρ b) off n z
 | .ptr b off => .ptr (rnm ρ b) off
 | .mref b => .mref (rnm ρ b)
def TV.ren (ρ : List (Nat × Nat)) : TV → TV
 | .c x => .c (x.ren ρ)
 | .tup vs => .tup (vs.map (T1.ren ρ))
 | .agg cs => .agg (cs.map (T1.ren ρ))
 | .clo f cap => .clo f (cap.map (T1.ren ρ))
def Blk.ren (ρ : List (Nat × Nat)) : Blk → Blk
 | .pure cs => .pure cs
 | .mix cs => .mix (cs.map (T1.ren ρ))
theorem get_mem : ∀ {h : Hp} {b : Nat} {k : Blk}, h.get b = some k → (b, k) ∈ h
 | [], _, _, e => by cases e
 | (c, v) :: l, b, k, e => by
  rw [Hp.get_cons] at e
  split at e
  ·rename_i hb
   cases e
   rw [hb]
   exact List.mem_cons_self
  ·exact List.mem_cons_of_mem _ (get_mem e)
def HFitsR (s : TS) (ρ : List (Nat × Nat)) : Hp → Prop
 | [] => True
 | (b, k) :: l => s.h.get (rnm ρ b) = some (k.ren ρ) ∧ HFitsR s ρ l
theorem HFitsR.mem {s : TS} {ρ : List (Nat × Nat)} : ∀ {L : Hp} (_ : HFitsR s ρ L) {b : Nat} {k : Blk}, (b, k) ∈ L → s.h.get (rnm ρ b) = some (k.ren ρ)
 | [], _, _, _, e => by cases e
 | (c, v) :: l, h, b, k, e => by
  rcases List.mem_cons.1 e with e | e
  ·cases e; exact h.1
  ·exact HFitsR.mem h.2 e
section calls
variable {P : Program} {s : TS} {ty : TypeId} {pos : String} {after : Array Edge}
def LendC (s : TS) (c : T1) (a : AV) : Prop := ∀ m h1, HM m s.h h1 → Lent h1 (c.rn m) a
theorem lendc_ptr {b off : Nat} {cs : List AV} (hb : s.h.get b = some (.pure cs)) (hne : cs ≠ []) : LendC s (.ptr b off) (.rptr cs off) := by
 intro m h1 hm
 obtain ⟨r, hr, hh⟩ := blk_real hm hb hne
 simp only [T1.rn, hr]
 exact .ptr r off cs hh
def LendsC (s : TS) : List Operand → List T1 → List AV → Prop
 | [], [], [] => True
 | [], c :: cs, a :: gs => LendC s c a ∧ LendsC s [] cs gs
 | x :: xs, caps, a :: gs => Lend s x a ∧ LendsC s xs caps gs
 | _, _, _ => False
theorem lendsC_get {m : Nm} {h1 : Heap} {n : Nat} (hm : HM m s.h h1) : ∀ {xs : List Operand} {caps : List T1} {gs : List AV}, LendsC s xs caps gs → ∃ as' : List AV, as'.length = xs.length + caps.length ∧ as'.length = gs.length ∧ (∀ (i : Nat) (a a' : AV), (xs.map (aev (can m s h1 n)) ++ caps.map (T1.rn m))[i]? = some a → as'[i]? = some a' → Les a a') ∧ ∀ (i : Nat) (a a' : AV), as'[i]? = some a → gs[i]? = some a' → Lent h1 a a'
 | [], [], [], _ => ⟨[], rfl, rfl, fun i a a' h _ => by simp at h, fun i a a' h _ => by simp at h⟩
 | [], c :: cs, g :: gs, h => by
  obtain ⟨as', h1', h2, h3, h4⟩ := lendsC_get (n := n) hm h.2
  refine ⟨c.rn m :: as', by simp at h1' ⊢; omega, by simp [h2], fun i a a' ha ha' => ?_, fun i a a' ha ha' => ?_⟩
  ·cases i with
   | zero =>
    simp only [List.map_nil, List.nil_append, List.map_cons, List.getElem?_cons_zero, Option.some.injEq] at ha ha'
    subst ha ha'
    exact .same _
   | succ i => exact h3 i a a' (by simpa using ha) (by simpa using ha')
  ·cases i with
   | zero =>
    simp only [List.getElem?_cons_zero, Option.some.injEq] at ha ha'
    subst ha ha'
    exact h.1 m h1 hm
   | succ i => exact h4 i a a' (by simpa using ha) (by simpa using ha')
 | x :: xs, caps, g :: gs, h => by
  obtain ⟨as', h1', h2, h3, h4⟩ := lendsC_get (n := n) hm h.2
  obtain ⟨b, hb1, hb2⟩ := h.1 m h1 n hm
  refine ⟨b :: as', by simp at h1' ⊢; omega, by simp [h2], fun i a a' ha ha' => ?_, fun i a a' ha ha' => ?_⟩
  ·cases i with
   | zero =>
    simp only [List.map_cons, List.cons_append, List.getElem?_cons_zero, Option.some.injEq] at ha ha'
    subst ha ha'
    exact hb1
   | succ i => exact h3 i a a' (by simpa using ha) (by simpa using ha')
  ·cases i with
   | zero =>
    simp only [List.getElem?_cons_zero, Option.some.injEq] at ha ha'
    subst ha ha'
    exact hb2
   | succ i => exact h4 i a a' (by simpa using ha) (by simpa using ha')
 | [], [], _ :: _, h => h.elim
 | [], _ :: _, [], h => h.elim
 | _ :: _, _, [], h => h.elim
theorem p_callc {dst : Option Tmp} {f : FuncId} {fn : Func} {x : Operand} {xs : Array Operand} {ts : Array TypeId} {caps : List T1} {args : List AV} {r : AV} (hd : dOk2 s dst = true) (hf : tev s x = .clo f caps) (hx0 : isConst x = false) (hfn : P.funcs[f]? = some fn) (hb : fn.body.isSome = true) (hname : (fn.name == "runtime.NumGoroutine") = false)
  (hc : ACp P f args r) (hno : noLst r = true) (ha : LendsC s xs.toList caps args) :
  PureD P ⟨dst, .call { callee := .value x, args := xs, argTypes := ts }, ty, pos, after, none⟩ s (.c (.p r)) := by
 intro m h1 n hm
 have hcl : aev (can m s h1 n) x = .clo f (caps.map (T1.rn m)) := by rw [aev_eq hx0, hf]; rfl
 obtain ⟨as', h3, h4, h5, h6⟩ := lendsC_get (n := n) hm ha
 refine OpW_hl fun hlt => OpW_call hcl hfn hb hname rfl ((AC.lend hc (args := as') h4 h6 (fun v hr hv => by rw [hv]; exact hno)).arg (by simp [h3]) h5) (dOk_can hd) ?_
 rintro v h' n' ⟨hr, rfl, rfl, hdis⟩ hn' hlt' _
 exact ⟨h1.merge hr.clean, n', _, hlt', keeps_merge (fun b hb => hdis b (Heap.clean_ne hb)), rfl, .same _⟩
def Blk.cln : Blk → Bool
 | .pure cs => cs.all noLst1
 | .mix cs => cs.all fun c => match c with | .p x => noLst1 x | _ => true
theorem Blk.cln_cells {k : Blk} (h : k.cln = true) (m : Nm) : (k.cells m).all noLst1 = true := by
 cases k with
 | pure cs => exact h
 | mix cs =>
  simp only [Blk.cln, List.all_eq_true] at h
  simp only [Blk.cells, List.all_map, List.all_eq_true]
  intro c hc
  have := h c hc
  cases c with
  | p x => exact this
  | own b n z =>
   simp only [Function.comp, T1.rn]
   cases m b <;> rfl
  | sl b off n z =>
   simp only [Function.comp, T1.rn]
   cases m b <;> rfl
  | ptr b off =>
   simp only [Function.comp, T1.rn]
   cases m b <;> rfl
  | mref b =>
   simp only [Function.comp, T1.rn]
   cases m b <;> rfl
def ClnAll : Hp → Prop
 | [] => True
 | (_, k) :: l => k.cln = true ∧ ClnAll l
theorem ClnAll.mem : ∀ {L : Hp} (_ : ClnAll L) {b : Nat} {k : Blk}, (b, k) ∈ L → k.cln = true
 | [], _, _, _, e => by cases e
 | (c, v) :: l, h, b, k, e => by
  rcases List.mem_cons.1 e with e | e
  ·cases e; exact h.1
  ·exact ClnAll.mem h.2 e
theorem HM.clean {m : Nm} {ch : Hp} {hr : Heap} (hm : HM m ch hr) (hc : ClnAll ch) : HM m ch hr.clean := by
 refine ⟨fun b k hk => ?_, hm.inj⟩
 rcases hm.blk b k hk with ⟨q, h1, h2⟩ | h
 ·refine .inl ⟨q, h1, ?_⟩
  unfold Heap.clean
  rw [h2]
  simp only
  rw [if_pos (Blk.cln_cells (hc.mem (get_mem hk)) m)]
 ·exact .inr h
end calls
end Go.Proofs.YthnkbagmaljjjaaDoor.VM

