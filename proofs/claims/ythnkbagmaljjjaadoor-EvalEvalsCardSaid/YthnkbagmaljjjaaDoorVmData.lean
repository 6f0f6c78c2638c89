/- Words and rules that the proof uses. -/
import Derived.Laws.Strings
import Derived.Test.YthnkbagmaljjjaaDoorVmFacts
namespace Go.Proofs.YthnkbagmaljjjaaDoor.VM
open Go Go.RowKit
abbrev AV.txt (bs : List UInt8) : AV := .sc (.string (strB bs))
abbrev AV.bytes (bs : List UInt8) : AV := .lst (bcells bs) bs.length
abbrev AV.lists (l : List (List UInt8)) : AV := .lst (l.map .bytes) l.length
theorem strB_toList (a : List UInt8) : (strB a).toList = a := by rw [ByteArray.toList_eq]; rfl
theorem strB_append (a b : List UInt8) : strB a ++ strB b = strB (a ++ b) := by
 apply ByteArray.ext
 simp [strB]
section steps
variable {P : Program} {ops : Array Oper} {K : AS → Prop} {s : AS} {j : Nat} {l : List Nat} {dst : Option Tmp} {ty : TypeId} {pos : String} {after : Array Edge}
end steps
section ops
variable {h h' : Heap}
theorem Row.new {b : Nat} {cs : List AV} {n z : Nat} (hl : cs.length = n * z) : Row (h.set b (some cs)) (.sl b 0 n z) cs n z := ⟨hl, .inr ⟨b, rfl, Heap.set_eq _ _ _⟩⟩
theorem sep.symm {v v' : AV} (h : sep v v') : sep v' v := fun b hb hb' => h b hb' hb
theorem Row.other {v v1 v' : AV} {cs : List AV} {n z : Nat} (r : Row h v cs n z) (hs : sep v v1) (hk : ∀ b, h b ≠ none → blk v1 ≠ some b → h' b = h b ∧ blk v' ≠ some b) : Row h' v cs n z ∧ sep v v' := by
 refine ⟨r.keep fun b hb hb2 => (hk b hb2 (hs b hb)).1, fun b hb => ?_⟩
 obtain ⟨hl, ⟨rfl, rfl⟩ | ⟨b', rfl, hb'⟩⟩ := r
 ·cases hb
 ·simp only [blk, Option.some.injEq] at hb
  subst hb
  exact (hk b' (by rw [hb']; simp) (hs b' rfl)).2
end ops
end Go.Proofs.YthnkbagmaljjjaaDoor.VM
