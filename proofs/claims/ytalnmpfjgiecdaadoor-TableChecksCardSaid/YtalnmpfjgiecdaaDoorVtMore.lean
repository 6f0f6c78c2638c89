/- Words and rules that the proof uses. -/
import Derived.Test.YtalnmpfjgiecdaaDoorVtWrap
namespace Go.Proofs.YtalnmpfjgiecdaaDoor.VM
open Go Go.RowKit
def TAll (s : TS) (v : TV) : List Nat → Prop
 | [] => True
 | d :: ds => s.t d = v ∧ TAll s v ds
theorem TAll.get {s : TS} {v : TV} : ∀ {ds : List Nat}, TAll s v ds → ∀ d ∈ ds, s.t d = v
 | _ :: _, h, d, hd => by
  rcases List.mem_cons.1 hd with rfl | h2
  ·exact h.1
  ·exact TAll.get h.2 d h2
section ops
variable {P : Program} {s : TS} {dst : Option Tmp} {ty : TypeId} {pos : String} {after : Array Edge}
theorem p_asgn (hd : dOk2 s dst = true) : PureD P ⟨dst, .assign (.const (.slice none 0 0)), ty, pos, after, none⟩ s (.c (.p .nil)) :=
 PureD_same fun m h1 n hm K hk => OpW_assign (dOk_can hd) (hk _ (.same _))
end ops
section calls
variable {P : Program} {s : TS} {dst : Option Tmp} {ty : TypeId} {pos : String} {after : Array Edge}
def ArgsAre (s : TS) : List Operand → List AV → Prop
 | [], [] => True
 | x :: xs, a :: l => tev s x = .c (.p a) ∧ ArgsAre s xs l
 | _, _ => False
theorem args_get {s : TS} : ∀ {xs : List Operand} {l : List AV}, ArgsAre s xs l → l.length = xs.length ∧ ∀ (i : Nat) (x : Operand), xs[i]? = some x → ∃ a, l[i]? = some a ∧ tev s x = .c (.p a)
 | [], [], _ => ⟨rfl, fun i x h => by simp at h⟩
 | [], _ :: _, h => h.elim
 | _ :: _, [], h => h.elim
 | x :: xs, a :: l, h => by
  obtain ⟨h1, h2⟩ := args_get h.2
  refine ⟨by simp [h1], fun i y hy => ?_⟩
  cases i with
  | zero => simp at hy; subst hy; exact ⟨a, rfl, h.1⟩
  | succ i => exact h2 i y (by simpa using hy)
theorem p_callp {f : FuncId} {fn : Func} {x : Operand} {xs : Array Operand} {ts : Array TypeId} {args : List AV} {r : AV} (hd : dOk2 s dst = true) (hf : tev s x = .clo f []) (hx0 : isConst x = false) (hfn : P.funcs[f]? = some fn) (hb : fn.body.isSome = true) (hname : (fn.name == "runtime.NumGoroutine") = false)
  (hc : ACp P f args r) (ha : ArgsAre s xs.toList args) :
  PureD P ⟨dst, .call { callee := .value x, args := xs, argTypes := ts }, ty, pos, after, none⟩ s (.c (.p r)) := by
 obtain ⟨h1, h2⟩ := args_get ha
 exact p_call (caps := []) hd hf hx0 hfn hb hname h2 (by simpa using h1) (by rw [List.append_nil]; exact hc)
end calls
section quo
variable {P : Program} {s : TS} {dst : Option Tmp} {ty : TypeId} {pos : String} {after : Array Edge}
end quo
theorem ne_true {b : Bool} (h : b = false) : ¬ b = true := by subst h; decide
theorem bfalse {e : Bool} (h : ¬ e = true) : e = false := by cases e <;> simp_all
theorem AW2_ghoQ {P : Program} {c : Code} {Q : Go.Exit → TS → Prop} {s : TS} (h : AW2 P c (fun e s1 => ∃ s2, Gho s1 s2 ∧ Q e s2) s) : AW2 P c Q s := by
 intro m h1 n hm Z a w r
 refine wp_mono (h m h1 n hm Z a w r) fun _ _ _ ⟨s1', Z', ⟨s3, m', ⟨s2, g, q⟩, pn, f⟩, r', x⟩ => ?_
 have r2 : SR Z' (can m' s3 s1'.h s1'.n) _ _ := ⟨fun u => f.tm u _ _ _ (r'.tm u), by rw [r'.ts, f.sz]; rfl, r'.df, r'.gd, r'.hn, r'.hl⟩
 obtain ⟨m2, s2', Z2, pn2, f2, r3, x2⟩ := g m' s1'.h s1'.n f.hm Z' _ _ r2
 exact ⟨s2', Z2, ⟨s2, m2, q, pn.trans pn2, f2⟩, r3, x.trans x2⟩
theorem t_gho {P : Program} {ops : Array Oper} {K : TS → Prop} {s s2 : TS} (g : Gho s s2) (h : K s2) : TailD P ops (fun s1 => ∃ s2, Gho s1 s2 ∧ K s2) [] s := ⟨s2, g, h⟩
end Go.Proofs.YtalnmpfjgiecdaaDoor.VM
