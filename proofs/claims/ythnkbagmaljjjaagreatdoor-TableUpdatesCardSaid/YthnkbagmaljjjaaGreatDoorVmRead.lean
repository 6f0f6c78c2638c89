/- Words and rules that the proof uses. -/
import Derived.Test.YthnkbagmaljjjaaGreatDoorVmData
import Derived.Test.YthnkbagmaljjjaaGreatDoorRows
import Derived.ChangeSlices
import Derived.OpenShut
import Derived.ProofKit
import Derived.ChangeBears
namespace Go.Proofs.YthnkbagmaljjjaaGreatDoor.VM
open Go Go.RowKit Go.ChangeShapes Go.WideShapes
theorem choose_list {α:Type} {p:Nat→α→Prop}:∀ (n:Nat),(∀ i,i < n→∃ a,p i a)→∃ l:List α,l.length=n∧∀ i a,l[i]?=some a→p i a
 | 0,_=>⟨[],rfl,by simp⟩
 | n+1,h=>by
  obtain ⟨l,hl,hp⟩:=choose_list n (fun i hi=>h i (by omega))
  obtain ⟨a,ha⟩:=h n (by omega)
  refine ⟨l++[a],by simp [hl],fun i b hb=>?_⟩
  rw [List.getElem?_append] at hb
  split at hb
  ·exact hp i b hb
  ·rename_i hi
   have hin:i=n:=by
    have:=(List.getElem?_eq_some_iff.1 hb).1
    simp at this
    omega
   subst hin
   rw [show i - l.length=0 by omega] at hb
   simp only [List.getElem?_cons_zero,Option.some.injEq] at hb
   subst hb
   exact ha
theorem flat_get {α:Type} {z:Nat}:∀ (es:List (List α)),(∀ x∈es,x.length=z)→∀ (p:Nat) (a:α),es.flatten[p]?=some a→∃ i r x,p=i * z+r∧r < z∧es[i]?=some x∧x[r]?=some a
 | [],_,p,a,h=>by simp at h
 | x::es,hz,p,a,h=>by
  have hx:=hz x List.mem_cons_self
  rw [List.flatten_cons,List.getElem?_append] at h
  split at h
  ·exact ⟨0,p,x,by omega,by omega,rfl,h⟩
  ·obtain ⟨i,r,y,h1,h2,h3,h4⟩:=flat_get es (fun y hy=>hz y (List.mem_cons_of_mem _ hy)) _ _ h
   refine ⟨i+1,r,y,?_,h2,by simpa using h3,h4⟩
   rw [Nat.add_mul]
   omega
theorem flat_get2 {α:Type}:∀ (es:List (List α)) (p:Nat) (a:α),es.flatten[p]?=some a→∃ i r x,p=((es.take i).map List.length).sum+r∧es[i]?=some x∧x[r]?=some a
 | [],p,a,h=>by simp at h
 | x::es,p,a,h=>by
  rw [List.flatten_cons,List.getElem?_append] at h
  split at h
  ·exact ⟨0,p,x,by simp,rfl,h⟩
  ·obtain ⟨i,r,y,h1,h2,h3⟩:=flat_get2 es _ _ h
   refine ⟨i+1,r,y,?_,by simpa using h2,h3⟩
   simp only [List.take_succ_cons,List.map_cons,List.sum_cons]
   omega
theorem flat_len2 {α:Type}:∀ (es:List (List α)),es.flatten.length=(es.map List.length).sum
 | []=>rfl
 | x::es=>by simp [flat_len2 es]
theorem map_len {α:Type} (g:Field→Nat):∀ (es:List (List α)) (fs:List Field),es.length=fs.length→(∀ (i:Nat) (x:List α) (f:Field),es[i]?=some x→fs[i]?=some f→x.length=g f)→es.map List.length=fs.map g
 | [],[],_,_=>rfl
 | [],_::_,h,_=>by simp at h
 | _::_,[],h,_=>by simp at h
 | x::es,f::fs,h,hp=>by
  rw [List.map_cons,List.map_cons,hp 0 x f rfl rfl,map_len g es fs (by simpa using h) (fun i y q hy hq=>hp (i+1) y q (by simpa using hy) (by simpa using hq))]
theorem flat_len {α:Type} {z:Nat}:∀ (es:List (List α)),(∀ x∈es,x.length=z)→es.flatten.length=es.length * z
 | [],_=>by simp
 | x::es,hz=>by
  rw [List.flatten_cons,List.length_append,flat_len es (fun y hy=>hz y (List.mem_cons_of_mem _ hy)),hz x List.mem_cons_self,List.length_cons,Nat.add_mul]
  omega
def plainB (P:Program):Nat→TypeId→Bool
 | 0,_=>false
 | d+1,t=>match P.underlying t with
  | some .bool=>true
  | some (.int _)=>true
  | some .string=>true
  | some (.slice e)=>plainB P d e
  | some (.array _ e)=>decide (t < P.types.size) && plainB P d e
  | some (.struct fs)=>decide (t < P.types.size) && fs.toList.all fun f=>plainB P d f.type
  | _=>false
def Typed (P:Program):Nat→TypeId→List AV→Prop
 | 0,_,_=>False
 | d+1,t,cs=>match P.underlying t with
  | some .bool=>∃ b,cs=[.bool b]
  | some (.int k)=>∃ n,cs=[.sc (.int k n)]∧(Lit.int k n).wf=true
  | some .string=>∃ bs,cs=[.txt bs]∧bs.length≤reachBytes
  | some (.slice e)=>∃ es:List (List AV),cs=[.lst es.flatten es.length]∧es.length * P.bytesOf e≤reachBytes∧es.length≤maxLen∧∀ x∈es,x.length=P.cellsOf e∧Typed P d e x
  | some (.array n e)=>∃ es:List (List AV),cs=es.flatten∧es.length=n∧∀ x∈es,x.length=P.cellsOf e∧Typed P d e x
  | some (.struct fs)=>∃ es:List (List AV),cs=es.flatten∧es.length=fs.size∧∀ (i:Nat) (f:Field) (x:List AV),fs[i]?=some f→es[i]?=some x→x.length=P.cellsOf f.type∧Typed P d f.type x
  | _=>True
mutual

def avBulk:AV→Nat
 | .sc (.string b)=>b.size+1
 | .lst cs _=>avBulkL cs+1
 | .agg cs=>avBulkL cs
 | _=>1
def avBulkL:List AV→Nat
 | []=>0
 | a::r=>avBulk a+avBulkL r
end
theorem avBulkL_append:∀ (a b:List AV),avBulkL (a++b)=avBulkL a+avBulkL b
 | [],b=>by simp [avBulkL]
 | x::a,b=>by rw [List.cons_append,avBulkL,avBulkL,avBulkL_append a b]; omega
theorem avBulkL_flat {H:Type}:∀ (es:List (List AV)) (ys:List (DataW H)),es.length=ys.length→(∀ (i:Nat) (x:List AV) (y:DataW H),es[i]?=some x→ys[i]?=some y→avBulkL x≤Rows.uptoBulk y)→avBulkL es.flatten≤Rows.uptoBulkAll ys
 | [],_,_,_=>by simp [avBulkL]
 | x::es,[],h,_=>by simp at h
 | x::es,y::ys,h,hp=>by
  rw [List.flatten_cons,avBulkL_append,Rows.uptoBulkAll]
  have h1:=hp 0 x y rfl rfl
  have h2:=avBulkL_flat es ys (by simpa using h) (fun i a b ha hb=>hp (i+1) a b (by simpa using ha) (by simpa using hb))
  omega
theorem weightsAll_mem {H:Type} {P:Program} {e:TypeId}:∀ {l:List (DataW H)} (_:(DataW.weightsAll P e l).all (·≤reachBytes)=true) (d:DataW H),d∈l→(d.weights P e).all (·≤reachBytes)=true
 | d0::l,h,d,hd=>by
  rw [DataW.weightsAll,List.all_append,Bool.and_eq_true] at h
  rcases List.mem_cons.1 hd with rfl | hd
  ·exact h.1
  ·exact weightsAll_mem h.2 d hd
theorem weightsEach_at {H:Type} {P:Program}:∀ {ts:List TypeId} {l:List (DataW H)} (_:(DataW.weightsEach P ts l).all (·≤reachBytes)=true) (i:Nat) (t:TypeId) (d:DataW H),ts[i]?=some t→l[i]?=some d→(d.weights P t).all (·≤reachBytes)=true
 | t::ts,y::l,h,0,t',d,ht,hd=>by
  simp only [List.getElem?_cons_zero,Option.some.injEq] at ht hd
  subst ht
  subst hd
  rw [DataW.weightsEach,List.all_append,Bool.and_eq_true] at h
  exact h.1
 | t::ts,y::l,h,i+1,t',d,ht,hd=>by
  rw [DataW.weightsEach,List.all_append,Bool.and_eq_true] at h
  exact weightsEach_at h.2 i t' d (by simpa using ht) (by simpa using hd)
end Go.Proofs.YthnkbagmaljjjaaGreatDoor.VM
