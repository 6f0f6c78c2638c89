/- Words and rules that the proof uses. -/
import Derived.Test.YtichdokjjdkjdaaDoorVtMin
namespace Go.Proofs.YtichdokjjdkjdaaDoor.VM
open Go Go.RowKit
section
variable {P : Program} {s : TS} {dst : Option Tmp} {ty : TypeId} {pos : String} {after : Array Edge}
end
def one (b : Nat) (o : List AV) : Heap := fun k => if k = b then some o else none
def PubT (b n z : Nat) (cs : List AV) (x y : T1) : Prop := x = y ∨ (x = .own b n z ∧ y = .p (.lst cs n)) ∨ ∃ off, x = .ptr b off ∧ y = .p (.rptr cs off) ∧ cs ≠ []
def PubL (b n z : Nat) (cs : List AV) : List T1 → List T1 → Prop
 | [], [] => True
 | x :: l, y :: m => PubT b n z cs x y ∧ PubL b n z cs l m
 | _, _ => False
def PubR (b n z : Nat) (cs : List AV) : TV → TV → Prop
 | .c x, .c y => PubT b n z cs x y
 | .agg l, .agg m => PubL b n z cs l m
 | .clo f l, .clo g m => f = g ∧ PubL b n z cs l m
 | _, _ => False
theorem PubL.len {b n z : Nat} {cs : List AV} : ∀ {l m : List T1}, PubL b n z cs l m → l.length = m.length
 | [], [], _ => rfl
 | _ :: _, _ :: _, h => by rw [List.length_cons, List.length_cons, PubL.len h.2]
 | [], _ :: _, h => h.elim
 | _ :: _, [], h => h.elim
theorem PubL.get {b n z : Nat} {cs : List AV} : ∀ {l m : List T1}, PubL b n z cs l m → ∀ (i : Nat) (x y : T1), l[i]? = some x → m[i]? = some y → PubT b n z cs x y
 | [], [], _, i, x, y, h1, _ => by simp at h1
 | a :: l, c :: m, h, i, x, y, h1, h2 => by
  cases i with
  | zero =>
   simp only [List.getElem?_cons_zero, Option.some.injEq] at h1 h2
   subst h1 h2
   exact h.1
  | succ i => exact PubL.get h.2 i x y (by simpa using h1) (by simpa using h2)
 | [], _ :: _, h, _, _, _, _, _ => h.elim
 | _ :: _, [], h, _, _, _, _, _ => h.elim
def PAll (s : TS) (b n z : Nat) (cs : List AV) : List (Nat × TV) → Prop
 | [] => True
 | (u, v) :: ds => PubR b n z cs (s.t u) v ∧ PAll s b n z cs ds
theorem PAll.get {s : TS} {b n z : Nat} {cs : List AV} : ∀ {ds : List (Nat × TV)}, PAll s b n z cs ds → ∀ u, look (s.t u) ds u = s.t u ∨ PubR b n z cs (s.t u) (look (s.t u) ds u)
 | [], _, _ => .inl rfl
 | (k, v) :: ds, h, u => by
  rw [look_cons]
  by_cases hu : u = k
  ·rw [if_pos hu, hu]
   exact .inr h.1
  ·rw [if_neg hu]
   exact PAll.get h.2 u
section calls
variable {P : Program} {s : TS} {dst : Option Tmp} {ty : TypeId} {pos : String} {after : Array Edge}
end calls
section zero
variable {P : Program} {s : TS} {dst : Option Tmp} {ty : TypeId} {pos : String} {after : Array Edge}
end zero
def AnyL : List T1 → List T1 → Prop
 | [], [] => True
 | x :: l, y :: m => (x = y ∨ y = .p .any) ∧ AnyL l m
 | _, _ => False
theorem AnyL.len : ∀ {l m : List T1}, AnyL l m → l.length = m.length
 | [], [], _ => rfl
 | _ :: _, _ :: _, h => by rw [List.length_cons, List.length_cons, AnyL.len h.2]
 | [], _ :: _, h => h.elim
 | _ :: _, [], h => h.elim
theorem AnyL.get : ∀ {l m : List T1}, AnyL l m → ∀ (i : Nat) (x y : T1), l[i]? = some x → m[i]? = some y → x = y ∨ y = .p .any
 | [], [], _, i, x, y, h1, _ => by simp at h1
 | a :: l, c :: m, h, i, x, y, h1, h2 => by
  cases i with
  | zero =>
   simp only [List.getElem?_cons_zero, Option.some.injEq] at h1 h2
   subst h1 h2
   exact h.1
  | succ i => exact AnyL.get h.2 i x y (by simpa using h1) (by simpa using h2)
 | [], _ :: _, h, _, _, _, _, _ => h.elim
 | _ :: _, [], h, _, _, _, _, _ => h.elim
theorem OpW.sub {P : Program} {o : Oper} {K K' : AS → Prop} {s : AS} (h : OpW P o K s) (hk : ∀ s', K s' → ∃ h2 : Heap, (∀ b o, h2 b = some o → s'.h b = some o) ∧ K' ⟨s'.t, h2, s'.n, s'.sz⟩) : OpW P o K' s := by
 intro Z a w r next Q hn
 refine h Z a w r next Q fun s' Z' a' w' q r' x => ?_
 obtain ⟨h2, hs, q'⟩ := hk s' q
 exact hn ⟨s'.t, h2, s'.n, s'.sz⟩ Z' a' w' q' ⟨r'.tm, r'.ts, r'.df, r'.gd.sub hs, r'.hn, fun b o e => r'.hl b o (hs b o e)⟩ (x.sub hs)
section calls
variable {P : Program} {s : TS} {ty : TypeId} {pos : String} {after : Array Edge}
theorem n_call2 {f : FuncId} {fn : Func} {x : Operand} {xs : Array Operand} {ts : Array TypeId} {args : List AV} {d u n z : Nat} {cs : List AV} (b : Nat) (hd : dOk2 s (some d) = true) (hf : tev s x = .clo f []) (hx0 : isConst x = false) (hfn : P.funcs[f]? = some fn) (hb : fn.body.isSome = true) (hname : (fn.name == "runtime.NumGoroutine") = false)
  (hc : AC2 P f (pureT args) [] (.c (.own u n z)) [(u, .pure cs)]) (ha : ArgsAre s xs.toList args) (hne : cs ≠ []) :
  MakeD P ⟨some d, .call { callee := .value x, args := xs, argTypes := ts }, ty, pos, after, none⟩ s (.c (.own b n z)) b cs := by
 obtain ⟨hal, hget⟩ := args_get ha
 intro m h1 n1 hm
 have hcl : aev (can m s h1 n1) x = .clo f [] := by
  rw [aev_eq hx0, hf]
  rfl
 have hpt : (pureT args).map (TV.rn m) = args := by
  simp only [pureT, List.map_map]
  rw [show (TV.rn m ∘ fun x => TV.c (.p x)) = id from rfl]
  simp
 have hac := hc m Heap.empty (hm_nil _) (fun q o hq => by cases hq)
 rw [hpt] at hac
 refine OpW.sub (K := fun s' => ∃ v h' n', s' = (AS.mk (can m s h1 n1).t h' n' s.sz).put (some d) v ∧ (∃ hr, (∃ m', Pin m m' ∧ HM m' [(u, Blk.pure cs)] hr ∧ v = (TV.c (.own u n z)).rn m') ∧ h' = h1.merge hr ∧ ∀ b, hr b ≠ none → h1 b = none) ∧ (∀ b o, h' b = some o → b < n') ∧ (∀ b, h' b ≠ none → h1 b ≠ none ∨ n1 ≤ b))
  (OpW_call hcl hfn hb hname rfl ((AC.frame hac h1).arg (by simp [hal]) (fun i a a' h2 h3 => ?_)) (dOk_can hd) (fun v h' n' hR hn' hlt' hfr => ⟨v, h', n', rfl, hR, hlt', hfr⟩)) ?_
 ·rw [List.append_nil, List.getElem?_map] at h2
  obtain ⟨y, hy, rfl⟩ := Option.map_eq_some_iff.1 h2
  obtain ⟨a2, h4, h5⟩ := hget i y hy
  rw [h4] at h3
  cases h3
  have := aev_les (s := s) (m := m) (h1 := h1) (n := n1) y
  rw [h5] at this
  exact this
 ·rintro s' ⟨v, h', n', rfl, ⟨hr, ⟨m', _, hmr, rfl⟩, rfl, hdis⟩, hlt', hfr⟩
  obtain ⟨q, hq1, hq2⟩ : ∃ q, m' u = some q ∧ hr q = some cs := by
   rcases hmr.blk u (.pure cs) (by simp [Hp.get, look_cons]) with h | ⟨_, h⟩
   ·exact h
   ·exact absurd h hne
  have hfree : h1 q = none := hdis q (by rw [hq2]; simp)
  have hm1 : (h1.merge hr) q = some cs := by unfold Heap.merge; rw [hq2]
  have hsub : ∀ b o, (h1.set q (some cs)) b = some o → (h1.merge hr) b = some o := by
   intro b o hbo
   by_cases hbq : b = q
   ·rw [hbq, Heap.set_eq] at hbo
    rw [hbq, hm1, hbo]
   ·rw [Heap.set_ne _ _ _ _ hbq] at hbo
    unfold Heap.merge
    cases hrb : hr b with
    | none => exact hbo
    | some o2 =>
     have := hdis b (by rw [hrb]; simp)
     rw [this] at hbo
     cases hbo
  refine ⟨h1.set q (some cs), hsub, q, n', (TV.c (.own u n z)).rn m', ?_, hfree, fun b o hbo => hlt' b o (hsub b o hbo), rfl, fun m2 hm2 => ?_⟩
  ·rcases hfr q (by rw [hm1]; simp) with h | h
   ·exact absurd hfree h
   ·exact h
  ·simp only [TV.rn, T1.rn, hq1, hm2]
   exact .same _
end calls
end Go.Proofs.YtichdokjjdkjdaaDoor.VM
