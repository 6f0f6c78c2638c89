/- Words and rules that the proof uses. -/
import Derived.Test.YtichdokjjdkjdaaDoorVmMake
namespace Go.Proofs.YtichdokjjdkjdaaDoor.VM
open Go Go.RowKit
def bcells (bs : List UInt8) : List AV := bs.map fun b => .sc (.int .u8 b.toNat)
def strB (bs : List UInt8) : ByteArray := ⟨bs.toArray⟩
def bnd (s : AS) (o : Option Operand) (d v : Nat) : Prop := match o with
 | none => v = d
 | some x => ∃ k, aev s x = .sc (.int k v)
theorem run_bounds {P : Program} {Z : Nat → Prop} {s : AS} {a : Act} {w : World} (r : SR Z s a w) {lo hi mx : Option Operand} {l h n c m : Nat} (isS : Bool) (hl : bnd s lo 0 l) (hh : bnd s hi n h) (hm : bnd s mx c m) (hmh : mx.isSome = true → hi.isSome = true) (h1 : l ≤ h) (h2 : h ≤ m) (h3 : m ≤ c) :
  (Instr.sliceBounds isS n c (lo.map a.eval) (hi.map a.eval) (mx.map a.eval)).run P w = .ok (l, h, m) w := by
 have ev : ∀ (x : Operand) (k : IntKind) (v : Nat), aev s x = .sc (.int k v) → a.eval x = .int k v := by
  intro x k v hx
  have := aev_rel r x
  rw [hx] at this
  exact this.sc_inv
 have sb : ∀ (k : IntKind) (v y : Nat) (code : BoundsCode), v ≤ y → (Instr.sliceBound (.int k v) y code).run P w = .ok v w := by
  intro k v y code hv
  have := run_sliceBound (P := P) w k (v : Int) y code (by omega) (by omega)
  simpa using this
 cases lo <;> cases hi <;> cases mx <;> simp only [bnd] at hl hh hm <;> (try (simp at hmh; done))
 case none.none.none => subst hl; subst hh; subst hm; simp [Instr.sliceBounds]
 case none.some.none y =>
  obtain ⟨k, hy⟩ := hh
  subst hl; subst hm
  simp [Instr.sliceBounds, ev _ _ _ hy, sb k h _ _ h2]
 case none.some.some y z =>
  obtain ⟨k, hy⟩ := hh
  obtain ⟨k', hz⟩ := hm
  subst hl
  simp [Instr.sliceBounds, ev _ _ _ hy, ev _ _ _ hz, sb k h _ _ h2, sb k' m _ _ h3]
 case some.none.none x =>
  obtain ⟨k, hx⟩ := hl
  subst hh; subst hm
  simp [Instr.sliceBounds, ev _ _ _ hx, sb k l _ _ h1]
 case some.some.none x y =>
  obtain ⟨k, hx⟩ := hl
  obtain ⟨k', hy⟩ := hh
  subst hm
  simp [Instr.sliceBounds, ev _ _ _ hx, ev _ _ _ hy, sb k l _ _ h1, sb k' h _ _ h2]
 case some.some.some x y z =>
  obtain ⟨k, hx⟩ := hl
  obtain ⟨k', hy⟩ := hh
  obtain ⟨k'', hz⟩ := hm
  simp [Instr.sliceBounds, ev _ _ _ hx, ev _ _ _ hy, ev _ _ _ hz, sb k l _ _ h1, sb k' h _ _ h2, sb k'' m _ _ h3]
section ops
variable {P : Program} {K : AS → Prop} {s : AS} {dst : Option Tmp} {ty : TypeId} {pos : String} {after : Array Edge} {t e : TypeId} {x : Operand} {lo hi mx : Option Operand} {l h n m z : Nat}
theorem OpW_cut_str {b : ByteArray} (hx : aev s x = .sc (.string b)) (ht : P.underlying t = some .string) (hl : bnd s lo 0 l) (hh : bnd s hi b.size h) (hm : mx = none) (h1 : l ≤ h) (h2 : h ≤ b.size) (hd : dOk s dst = true)
  (hk : K (s.put dst (.sc (.string (b.extract l h))))) : OpW P ⟨dst, .slice t x lo hi mx, ty, pos, after, none⟩ K s := by
 refine OpW_same hd (fun Z a w r => ⟨_, ?_, .sc _ rfl⟩) hk
 subst hm
 have hv := aev_rel r x
 rw [hx] at hv
 have hb := run_bounds (P := P) (c := b.size) (mx := none) r false hl hh rfl (fun hc => by simp at hc) h1 h2 (Nat.le_refl _)
 simp only [Option.map_none] at hb
 simp only [execOp, Instr.sliceAt, hv.sc_inv]
 simp [run_underlying ht, Instr.slice, hb]
end ops
end Go.Proofs.YtichdokjjdkjdaaDoor.VM
