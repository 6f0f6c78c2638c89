/- Words and rules that the proof uses. -/
import Derived.Test.YtglgdaeimfdpfaaVtLoop
import Derived.ScopeJumps
namespace Go.Proofs.Ytglgdaeimfdpfaa.VM
open Go Go.RowKit
theorem thenQ2_exit {next:TS→Prop} {Q:Go.Exit→TS→Prop} {id:Nat} {s:TS} (h:Q (.exit id) s):thenQ2 next Q (.exit id) s:=h
theorem chkK {α:Type} {c:Prop} [Decidable c] {e:Option α} {r:α} {p:Prop} (h:(if c then e else none)=some r) (k:c→e=some r→p):p:=k (chk_elim h).1 (chk_elim h).2
theorem bindK {α β:Type} {e:Option α} {f:α→Option β} {r:β} {p:Prop} (h:e.bind f=some r) (k:∀ x,e=some x→f x=some r→p):p:=by
 obtain ⟨x,h1,h2⟩:=bind_elim h
 exact k x h1 h2
end Go.Proofs.Ytglgdaeimfdpfaa.VM
