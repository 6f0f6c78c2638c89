/- Words and rules that the proof uses. -/
import Derived.Test.YthnkbagmaljjjaaDoorVtMin
namespace Go.Proofs.YthnkbagmaljjjaaDoor.VM
open Go Go.RowKit
section
variable {P : Program} {s : TS} {dst : Option Tmp} {ty : TypeId} {pos : String} {after : Array Edge}
end
def one (b : Nat) (o : List AV) : Heap := fun k => if k = b then some o else none
def PubT (b n z : Nat) (cs : List AV) (x y : T1) : Prop := x = y ∨ (x = .own b n z ∧ y = .p (.lst cs n)) ∨ ∃ off, x = .ptr b off ∧ y = .p (.rptr cs off) ∧ cs ≠ []
def PubL (b n z : Nat) (cs : List AV) : List T1 → List T1 → Prop
 | [], [] => True
 | x :: l, y :: m => PubT b n z cs x y ∧ PubL b n z cs l m
 | _, _ => False
def PubR (b n z : Nat) (cs : List AV) : TV → TV → Prop
 | .c x, .c y => PubT b n z cs x y
 | .agg l, .agg m => PubL b n z cs l m
 | .clo f l, .clo g m => f = g ∧ PubL b n z cs l m
 | _, _ => False
theorem PubL.len {b n z : Nat} {cs : List AV} : ∀ {l m : List T1}, PubL b n z cs l m → l.length = m.length
 | [], [], _ => rfl
 | _ :: _, _ :: _, h => by rw [List.length_cons, List.length_cons, PubL.len h.2]
 | [], _ :: _, h => h.elim
 | _ :: _, [], h => h.elim
theorem PubL.get {b n z : Nat} {cs : List AV} : ∀ {l m : List T1}, PubL b n z cs l m → ∀ (i : Nat) (x y : T1), l[i]? = some x → m[i]? = some y → PubT b n z cs x y
 | [], [], _, i, x, y, h1, _ => by simp at h1
 | a :: l, c :: m, h, i, x, y, h1, h2 => by
  cases i with
  | zero =>
   simp only [List.getElem?_cons_zero, Option.some.injEq] at h1 h2
   subst h1 h2
   exact h.1
  | succ i => exact PubL.get h.2 i x y (by simpa using h1) (by simpa using h2)
 | [], _ :: _, h, _, _, _, _, _ => h.elim
 | _ :: _, [], h, _, _, _, _, _ => h.elim
def PAll (s : TS) (b n z : Nat) (cs : List AV) : List (Nat × TV) → Prop
 | [] => True
 | (u, v) :: ds => PubR b n z cs (s.t u) v ∧ PAll s b n z cs ds
theorem PAll.get {s : TS} {b n z : Nat} {cs : List AV} : ∀ {ds : List (Nat × TV)}, PAll s b n z cs ds → ∀ u, look (s.t u) ds u = s.t u ∨ PubR b n z cs (s.t u) (look (s.t u) ds u)
 | [], _, _ => .inl rfl
 | (k, v) :: ds, h, u => by
  rw [look_cons]
  by_cases hu : u = k
  ·rw [if_pos hu, hu]
   exact .inr h.1
  ·rw [if_neg hu]
   exact PAll.get h.2 u
section calls
variable {P : Program} {s : TS} {dst : Option Tmp} {ty : TypeId} {pos : String} {after : Array Edge}
end calls
section zero
variable {P : Program} {s : TS} {dst : Option Tmp} {ty : TypeId} {pos : String} {after : Array Edge}
end zero
def AnyL : List T1 → List T1 → Prop
 | [], [] => True
 | x :: l, y :: m => (x = y ∨ y = .p .any) ∧ AnyL l m
 | _, _ => False
theorem AnyL.len : ∀ {l m : List T1}, AnyL l m → l.length = m.length
 | [], [], _ => rfl
 | _ :: _, _ :: _, h => by rw [List.length_cons, List.length_cons, AnyL.len h.2]
 | [], _ :: _, h => h.elim
 | _ :: _, [], h => h.elim
theorem AnyL.get : ∀ {l m : List T1}, AnyL l m → ∀ (i : Nat) (x y : T1), l[i]? = some x → m[i]? = some y → x = y ∨ y = .p .any
 | [], [], _, i, x, y, h1, _ => by simp at h1
 | a :: l, c :: m, h, i, x, y, h1, h2 => by
  cases i with
  | zero =>
   simp only [List.getElem?_cons_zero, Option.some.injEq] at h1 h2
   subst h1 h2
   exact h.1
  | succ i => exact AnyL.get h.2 i x y (by simpa using h1) (by simpa using h2)
 | [], _ :: _, h, _, _, _, _, _ => h.elim
 | _ :: _, [], h, _, _, _, _, _ => h.elim
theorem OpW.sub {P : Program} {o : Oper} {K K' : AS → Prop} {s : AS} (h : OpW P o K s) (hk : ∀ s', K s' → ∃ h2 : Heap, (∀ b o, h2 b = some o → s'.h b = some o) ∧ K' ⟨s'.t, h2, s'.n, s'.sz⟩) : OpW P o K' s := by
 intro Z a w r next Q hn
 refine h Z a w r next Q fun s' Z' a' w' q r' x => ?_
 obtain ⟨h2, hs, q'⟩ := hk s' q
 exact hn ⟨s'.t, h2, s'.n, s'.sz⟩ Z' a' w' q' ⟨r'.tm, r'.ts, r'.df, r'.gd.sub hs, r'.hn, fun b o e => r'.hl b o (hs b o e)⟩ (x.sub hs)
section calls
variable {P : Program} {s : TS} {ty : TypeId} {pos : String} {after : Array Edge}
end calls
end Go.Proofs.YthnkbagmaljjjaaDoor.VM
