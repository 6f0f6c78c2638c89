/- Words and rules that the proof uses. -/
import Derived.Test.YtglgdaeimfdpfaaVtScope
namespace Go.Proofs.Ytglgdaeimfdpfaa.VM
open Go Go.RowKit
theorem w64_succ {k:Nat} (h:k < 9223372036854775807):w64 ((k:Int)+1)=((k+1:Nat):Int):=by
 rw [w64_id (by omega)]; omega
theorem natIn {k n:Nat} (h:k < n):(0:Int)≤(k:Int)∧(k:Int) < (n:Int):=by omega
theorem natLt {k n:Nat} (h:k < n):(k:Int) < (n:Int):=by omega
theorem natNlt {n:Nat}:¬ ((n:Int) < (n:Int)):=by omega
theorem loopO_times {τ σ β:Type} {step:τ→Option (τ⊕β)} (n:Nat) (enc:Nat→σ→τ) (I:Nat→σ→Prop) (Q:β→Prop)
  (hs:∀ k s,k < n→I k s→(∃ s',step (enc k s)=some (.inl (enc (k+1) s'))∧I (k+1) s')∨∃ r,step (enc k s)=some (.inr r)∧Q r)
  (he:∀ s,I n s→∃ r,step (enc n s)=some (.inr r)∧Q r) {s:σ} (h0:I 0 s):∃ r,loopO step (enc 0 s)=some r∧Q r:=by
 have key:∀ (m k:Nat) (s:σ),k+m=n→I k s→∃ r,loopO step (enc k s)=some r∧Q r:=by
  intro m
  induction m with
  | zero =>
   intro k s hk hi
   have:k=n:=by omega
   subst this
   obtain ⟨r,h1,h2⟩:=he s hi
   exact ⟨r,loopO_done h1,h2⟩
  | succ m ih =>
   intro k s hk hi
   rcases hs k s (by omega) hi with ⟨s',h1,h2⟩ | ⟨r,h1,h2⟩
   ·obtain ⟨r,h3,h4⟩:=ih (k+1) s' (by omega) h2
    exact ⟨r,by rw [loopO_next h1]; exact h3,h4⟩
   ·exact ⟨r,loopO_done h1,h2⟩
 exact key n 0 s (by omega) h0
end Go.Proofs.Ytglgdaeimfdpfaa.VM
