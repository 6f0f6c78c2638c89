/- Words and rules that the proof uses. -/
import Derived.Test.YtglgdaeimfdpfaaVtMix
namespace Go.Proofs.Ytglgdaeimfdpfaa.VM
open Go Go.RowKit
section lit
variable {P : Program} {s : TS} {dst : Option Tmp} {ty : TypeId} {pos : String} {after : Array Edge}
end lit
theorem part_len {α : Type} {l : List α} {n a k : Nat} (hl : l.length = n) (h : a + k ≤ n) : ((l.drop a).take k).length = k := by
 rw [List.length_take, List.length_drop, hl]; omega
theorem Sub.partB {cs : List AV} {off a k n : Nat} {l : List UInt8} (S : Sub cs off (bcells l)) (hl : l.length = n) (h : a + k ≤ n) : Sub cs (off + a * 1) (bcells ((l.drop a).take k)) := by
 refine S.trans ⟨?_, ?_⟩
 ·rw [bcells_length, bcells_length, part_len hl h, hl]; omega
 ·rw [bcells_length, part_len hl h]
  have := g_bytes l a k
  rwa [Nat.mul_one k] at this
section arr
variable {P : Program} {s : TS} {dst : Option Tmp} {ty : TypeId} {pos : String} {after : Array Edge}
theorem u_cutp {t e : TypeId} {x : Operand} {lo hi : Option Operand} {b off l h n z by' : Nat} {zv : Value} {o sub : List AV} (hd : dOk2 s dst = true) (hx0 : isConst x = false) (ht : P.underlying t = some (.array n e)) (hI : Info P e z by' zv) (hx : tev s x = .c (.ptr b off)) (hb : s.h.get b = some (.pure o)) (hne : o ≠ []) (S : Sub o off sub) (hs : sub.length = n * z) (hl : bndT s lo 0 l) (hh : bndT s hi n h) (h1 : l ≤ h) (h2 : h ≤ n) (h0 : l < h) :
  PureD P ⟨dst, .slice t x lo hi none, ty, pos, after, none⟩ s (.c (.sl b (off + l * z) (h - l) z)) :=
 p_cuta hd hx0 ht hI.sz hx hb hne (S.le hs) hl hh h1 h2 (.inr h0)
theorem lend_slp {α : Type} {l : List α} {x : Operand} {b off n z : Nat} {o sub : List AV} (hx0 : isConst x = false) (h : tev s x = .c (.sl b off n z)) (hb : s.h.get b = some (.pure o)) (hne : o ≠ []) (S : Sub o off sub) (hl : sub.length = n * z) (hn : l.length = n) : Lend s x (.lst sub l.length) := by
 subst hn
 exact lend_sl hx0 h hb hne S hl
end arr
end Go.Proofs.Ytglgdaeimfdpfaa.VM
