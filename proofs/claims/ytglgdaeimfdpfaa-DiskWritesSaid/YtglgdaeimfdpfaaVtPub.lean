/- Words and rules that the proof uses. -/
import Derived.Test.YtglgdaeimfdpfaaVtClo
namespace Go.Proofs.Ytglgdaeimfdpfaa.VM
open Go Go.RowKit
def idxL (k:Nat):List (List AV)→List (Nat×List AV)
 | []=>[]
 | x::l=>(k,x)::idxL (k+1) l
theorem af_idx {α:Type} {g:α→List AV} {z:Nat} {zs:List AV} (hg:∀ x,(g x).length=z) (hz:zs.length=z):∀ (l done:List α),afill (fun i=>some (i * z,z)) (done.flatMap g++azeros l.length zs) (idxL done.length (l.map g))=some ((done++l).flatMap g)
 | [],done=>by simp [afill,idxL,azeros]
 | x::l,done=>by
  have hd:(done.flatMap g).length=done.length * z:=fm_length hg done
  have hx:=hg x
  simp only [List.map_cons,idxL,afill]
  have hrest:azeros (l.length+1) zs=zs++azeros l.length zs:=by simp [azeros,List.replicate_succ]
  rw [List.length_cons,hrest,if_pos ⟨hx,by simp only [List.length_append]; omega⟩]
  have hw:wCells (done.flatMap g++(zs++azeros l.length zs)) (done.length * z) (g x)=(done++[x]).flatMap g++azeros l.length zs:=by
   unfold wCells
   rw [List.take_left' hd,← List.append_assoc (done.flatMap g) zs,List.drop_left' (by rw [List.length_append,hd,hz,hx])]
   simp
  rw [hw]
  have:=af_idx hg hz l (done++[x])
  rw [List.length_append] at this
  rw [show done.length+[x].length=done.length+1 from rfl] at this
  rw [this]
  simp
theorem af_lit {α:Type} {g:α→List AV} {z:Nat} {zs:List AV} (hg:∀ x,(g x).length=z) (hz:zs.length=z) (l:List α):afill (fun i=>some (i * z,z)) (azeros l.length zs) (idxL 0 (l.map g))=some (l.flatMap g):=af_idx hg hz l []
end Go.Proofs.Ytglgdaeimfdpfaa.VM
