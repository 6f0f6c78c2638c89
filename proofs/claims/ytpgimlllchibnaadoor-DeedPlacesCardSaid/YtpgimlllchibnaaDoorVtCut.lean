/- Words and rules that the proof uses. -/
import Derived.Test.YtpgimlllchibnaaDoorVtDrawU
namespace Go.Proofs.YtpgimlllchibnaaDoor.VM
open Go Go.RowKit
def CLes (cs cs' : List AV) : Prop := cs'.length ≤ cs.length ∧ ∀ (i : Nat) (a a' : AV), cs[i]? = some a → cs'[i]? = some a' → Les a a'
theorem CLes.pre {cs cs' : List AV} (h : cs' <+: cs) : CLes cs cs' := by
 obtain ⟨t, rfl⟩ := h
 refine ⟨by simp, fun i a a' h1 h2 => ?_⟩
 rw [List.getElem?_append_left (List.getElem?_eq_some_iff.1 h2).1, h2] at h1
 cases h1
 exact .same _
section
variable {P : Program} {s : TS} {dst : Option Tmp} {ty : TypeId} {pos : String} {after : Array Edge}
end
theorem toNat_le {i : Int} {N : Nat} (h : 0 ≤ i ∧ i ≤ (N : Int)) : i.toNat ≤ N := by omega
section
variable {P : Program} {s : TS} {dst : Option Tmp} {ty : TypeId} {pos : String} {after : Array Edge}
theorem u_cutah {t e : TypeId} {x : Operand} {hi : Option Operand} {b off n h z by' : Nat} {zv : Value} {o sub : List AV} (hd : dOk2 s dst = true) (hx0 : isConst x = false) (ht : P.underlying t = some (.array n e)) (hI : Info P e z by' zv) (hx : tev s x = .c (.ptr b off)) (hb : s.h.get b = some (.pure o)) (hne : o ≠ []) (S : Sub o off sub) (hl : sub.length = n * z) (hh : bndT s hi n h) (h2 : h ≤ n) :
  PureD P ⟨dst, .slice t x none hi none, ty, pos, after, none⟩ s (.c (.sl b (off + 0 * z) h z)) :=
 p_cuta (l := 0) (h := h) hd hx0 ht hI.sz hx hb hne (S.le hl) rfl hh (Nat.zero_le _) h2 (.inl rfl)
theorem u_lens {x : Operand} {t e : TypeId} {b off n z : Nat} {o : List AV} (hd : dOk2 s dst = true) (ht : P.underlying t = some (.slice e)) (hx0 : isConst x = false) (hx : tev s x = .c (.sl b off n z)) (hb : s.h.get b = some (.pure o)) (hne : o ≠ []) :
  PureD P ⟨dst, .call { callee := .builtin .len, args := #[x], argTypes := #[t] }, ty, pos, after, none⟩ s (.c (.p (.sc (.int .i64 n)))) :=
 p_len hd hx0 ht (by rw [hx]; rfl) (fun b z h => by rw [hx] at h; cases h) (fun b' o' z' h => by rw [hx] at h; cases h; exact ⟨o, hb, hne⟩)
theorem u_ixs {t e : TypeId} {x y : Operand} {b off n z by' : Nat} {zv : Value} {cs : List AV} {k : IntKind} {i : Int} {j : Nat} (hd : dOk2 s dst = true) (hx0 : isConst x = false) (ht : P.underlying t = some (.slice e)) (hI : Info P e z by' zv) (hx : tev s x = .c (.sl b off n z)) (hb : s.h.get b = some (.pure cs)) (hne : cs ≠ []) (hy : tev s y = .c (.p (.sc (.int k i)))) (hi : i = (j : Int)) (hj : j < n) :
  PureD P ⟨dst, .indexAddr t x y, ty, pos, after, none⟩ s (.c (.ptr b (off + j * z))) := p_ixs hd hx0 ht hI.sz hx hb hne hy hi hj
end
section
variable {P : Program} {s : TS} {dst : Option Tmp} {ty : TypeId} {pos : String} {after : Array Edge}
end
end Go.Proofs.YtpgimlllchibnaaDoor.VM
