/- Words and rules that the proof uses. -/
import Derived.Test.YtglgdaeimfdpfaaVmData
import Derived.Test.YtglgdaeimfdpfaaRows
import Derived.ChangeSlices
import Derived.OpenShut
import Derived.ProofKit
import Derived.ChangeBears
namespace Go.Proofs.Ytglgdaeimfdpfaa.VM
open Go Go.RowKit Go.ChangeShapes Go.WideShapes
theorem choose_list {α:Type} {p:Nat→α→Prop}:∀ (n:Nat),(∀ i,i < n→∃ a,p i a)→∃ l:List α,l.length=n∧∀ i a,l[i]?=some a→p i a
 | 0,_=>⟨[],rfl,by simp⟩
 | n+1,h=>by
  obtain ⟨l,hl,hp⟩:=choose_list n (fun i hi=>h i (by omega))
  obtain ⟨a,ha⟩:=h n (by omega)
  refine ⟨l++[a],by simp [hl],fun i b hb=>?_⟩
  rw [List.getElem?_append] at hb
  split at hb
  ·exact hp i b hb
  ·rename_i hi
   have hin:i=n:=by
    have:=(List.getElem?_eq_some_iff.1 hb).1
    simp at this
    omega
   subst hin
   rw [show i - l.length=0 by omega] at hb
   simp only [List.getElem?_cons_zero,Option.some.injEq] at hb
   subst hb
   exact ha
theorem flat_get {α:Type} {z:Nat}:∀ (es:List (List α)),(∀ x∈es,x.length=z)→∀ (p:Nat) (a:α),es.flatten[p]?=some a→∃ i r x,p=i * z+r∧r < z∧es[i]?=some x∧x[r]?=some a
 | [],_,p,a,h=>by simp at h
 | x::es,hz,p,a,h=>by
  have hx:=hz x List.mem_cons_self
  rw [List.flatten_cons,List.getElem?_append] at h
  split at h
  ·exact ⟨0,p,x,by omega,by omega,rfl,h⟩
  ·obtain ⟨i,r,y,h1,h2,h3,h4⟩:=flat_get es (fun y hy=>hz y (List.mem_cons_of_mem _ hy)) _ _ h
   refine ⟨i+1,r,y,?_,h2,by simpa using h3,h4⟩
   rw [Nat.add_mul]
   omega
theorem flat_get2 {α:Type}:∀ (es:List (List α)) (p:Nat) (a:α),es.flatten[p]?=some a→∃ i r x,p=((es.take i).map List.length).sum+r∧es[i]?=some x∧x[r]?=some a
 | [],p,a,h=>by simp at h
 | x::es,p,a,h=>by
  rw [List.flatten_cons,List.getElem?_append] at h
  split at h
  ·exact ⟨0,p,x,by simp,rfl,h⟩
  ·obtain ⟨i,r,y,h1,h2,h3⟩:=flat_get2 es _ _ h
   refine ⟨i+1,r,y,?_,by simpa using h2,h3⟩
   simp only [List.take_succ_cons,List.map_cons,List.sum_cons]
   omega
theorem flat_len2 {α:Type}:∀ (es:List (List α)),es.flatten.length=(es.map List.length).sum
 | []=>rfl
 | x::es=>by simp [flat_len2 es]
theorem map_len {α:Type} (g:Field→Nat):∀ (es:List (List α)) (fs:List Field),es.length=fs.length→(∀ (i:Nat) (x:List α) (f:Field),es[i]?=some x→fs[i]?=some f→x.length=g f)→es.map List.length=fs.map g
 | [],[],_,_=>rfl
 | [],_::_,h,_=>by simp at h
 | _::_,[],h,_=>by simp at h
 | x::es,f::fs,h,hp=>by
  rw [List.map_cons,List.map_cons,hp 0 x f rfl rfl,map_len g es fs (by simpa using h) (fun i y q hy hq=>hp (i+1) y q (by simpa using hy) (by simpa using hq))]
theorem flat_len {α:Type} {z:Nat}:∀ (es:List (List α)),(∀ x∈es,x.length=z)→es.flatten.length=es.length * z
 | [],_=>by simp
 | x::es,hz=>by
  rw [List.flatten_cons,List.length_append,flat_len es (fun y hy=>hz y (List.mem_cons_of_mem _ hy)),hz x List.mem_cons_self,List.length_cons,Nat.add_mul]
  omega
def plainB (P:Program):Nat→TypeId→Bool
 | 0,_=>false
 | d+1,t=>match P.underlying t with
  | some .bool=>true
  | some (.int _)=>true
  | some .string=>true
  | some (.slice e)=>plainB P d e
  | some (.array _ e)=>decide (t < P.types.size) && plainB P d e
  | some (.struct fs)=>decide (t < P.types.size) && fs.toList.all fun f=>plainB P d f.type
  | _=>false
def Typed (P:Program):Nat→TypeId→List AV→Prop
 | 0,_,_=>False
 | d+1,t,cs=>match P.underlying t with
  | some .bool=>∃ b,cs=[.bool b]
  | some (.int k)=>∃ n,cs=[.sc (.int k n)]∧(Lit.int k n).wf=true
  | some .string=>∃ bs,cs=[.txt bs]∧bs.length≤reachBytes
  | some (.slice e)=>∃ es:List (List AV),cs=[.lst es.flatten es.length]∧es.length * P.bytesOf e≤reachBytes∧es.length≤maxLen∧∀ x∈es,x.length=P.cellsOf e∧Typed P d e x
  | some (.array n e)=>∃ es:List (List AV),cs=es.flatten∧es.length=n∧∀ x∈es,x.length=P.cellsOf e∧Typed P d e x
  | some (.struct fs)=>∃ es:List (List AV),cs=es.flatten∧es.length=fs.size∧∀ (i:Nat) (f:Field) (x:List AV),fs[i]?=some f→es[i]?=some x→x.length=P.cellsOf f.type∧Typed P d f.type x
  | _=>True
mutual

def avBulk:AV→Nat
 | .sc (.string b)=>b.size+1
 | .lst cs _=>avBulkL cs+1
 | .agg cs=>avBulkL cs
 | _=>1
def avBulkL:List AV→Nat
 | []=>0
 | a::r=>avBulk a+avBulkL r
end
theorem avBulkL_append:∀ (a b:List AV),avBulkL (a++b)=avBulkL a+avBulkL b
 | [],b=>by simp [avBulkL]
 | x::a,b=>by rw [List.cons_append,avBulkL,avBulkL,avBulkL_append a b]; omega
theorem avBulkL_flat {H:Type}:∀ (es:List (List AV)) (ys:List (DataW H)),es.length=ys.length→(∀ (i:Nat) (x:List AV) (y:DataW H),es[i]?=some x→ys[i]?=some y→avBulkL x≤Rows.uptoBulk y)→avBulkL es.flatten≤Rows.uptoBulkAll ys
 | [],_,_,_=>by simp [avBulkL]
 | x::es,[],h,_=>by simp at h
 | x::es,y::ys,h,hp=>by
  rw [List.flatten_cons,avBulkL_append,Rows.uptoBulkAll]
  have h1:=hp 0 x y rfl rfl
  have h2:=avBulkL_flat es ys (by simpa using h) (fun i a b ha hb=>hp (i+1) a b (by simpa using ha) (by simpa using hb))
  omega
theorem weightsAll_mem {H:Type} {P:Program} {e:TypeId}:∀ {l:List (DataW H)} (_:(DataW.weightsAll P e l).all (·≤reachBytes)=true) (d:DataW H),d∈l→(d.weights P e).all (·≤reachBytes)=true
 | d0::l,h,d,hd=>by
  rw [DataW.weightsAll,List.all_append,Bool.and_eq_true] at h
  rcases List.mem_cons.1 hd with rfl | hd
  ·exact h.1
  ·exact weightsAll_mem h.2 d hd
theorem weightsEach_at {H:Type} {P:Program}:∀ {ts:List TypeId} {l:List (DataW H)} (_:(DataW.weightsEach P ts l).all (·≤reachBytes)=true) (i:Nat) (t:TypeId) (d:DataW H),ts[i]?=some t→l[i]?=some d→(d.weights P t).all (·≤reachBytes)=true
 | t::ts,y::l,h,0,t',d,ht,hd=>by
  simp only [List.getElem?_cons_zero,Option.some.injEq] at ht hd
  subst ht
  subst hd
  rw [DataW.weightsEach,List.all_append,Bool.and_eq_true] at h
  exact h.1
 | t::ts,y::l,h,i+1,t',d,ht,hd=>by
  rw [DataW.weightsEach,List.all_append,Bool.and_eq_true] at h
  exact weightsEach_at h.2 i t' d (by simpa using ht) (by simpa using hd)
theorem reads {H:Type} {enc:TypeId×Value→H} {P:Program} {w:World} {base:Nat} {sp:Nat→Bool} {held:Bool} (hlaid:laidOutB P=true):∀ (d:Nat) (fuel:Nat) (t:TypeId) (cs:List Value) (x:DataW H×List MemPlace),
  plainB P d t=true→DataW.trod enc P w base sp held fuel t cs=some x→(x.1.weights P t).all (·≤reachBytes)=true →
  ∃ av:List AV,av.length=cs.length∧Typed P d t av∧(∀ (i:Nat) (a:AV) (v:Value),av[i]?=some a→cs[i]?=some v→(Rel (fun b=>b < w.heap.size) w a v∧v.oneCell'=true))∧avBulkL av≤Rows.uptoBulk x.1
 | 0,_,_,_,_,h,_,_=>by simp [plainB] at h
 | d+1,fuel,t,cs,x,hp,h,hw=>by
  have one:∀ (a:AV) (v:Value),Rel (fun b=>b < w.heap.size) w a v→v.oneCell'=true→∀ (i:Nat) (a':AV) (v':Value),[a][i]?=some a'→[v][i]?=some v'→Rel (fun b=>b < w.heap.size) w a' v'∧v'.oneCell'=true:=by
   intro a v hr h1 i a' v' ha hv
   match i,ha,hv with
   | 0,ha,hv =>
    simp only [List.getElem?_cons_zero,Option.some.injEq] at ha hv
    subst ha
    subst hv
    exact ⟨hr,h1⟩
  unfold plainB at hp
  cases hu:P.underlying t with
  | none=>simp [hu] at hp
  | some u =>
   cases u with
   | bool =>
    obtain ⟨b,rfl,rfl⟩:=DataW.trod_bool hu h
    exact ⟨[.bool b],rfl,by simp [Typed,hu],one _ _ (.sc _ rfl) rfl,by simp [avBulkL,avBulk,Rows.uptoBulk]⟩
   | int k =>
    obtain ⟨n,rfl,rfl,hwf⟩:=DataW.trod_int hu h
    exact ⟨[.sc (.int k n)],rfl,by simp [Typed,hu,hwf],one _ _ (.sc _ rfl) rfl,by simp [avBulkL,avBulk,Rows.uptoBulk]⟩
   | string =>
    obtain ⟨s,rfl,rfl,hs⟩:=DataW.trod_string hu h
    refine ⟨[.sc (.string s)],rfl,?_,one _ _ (.sc _ rfl) rfl,by simp [avBulkL,avBulk,Rows.uptoBulk]⟩
    simp only [Typed,hu]
    refine ⟨s.data.toList,rfl,?_⟩
    simpa [DataW.weights] using hw
   | slice e =>
    simp only [hu] at hp
    rcases DataW.trod_slice hu h with ⟨rfl,rfl⟩ | ⟨a,len,cap,elems,rest,n,rfl,rfl,rfl,hb,hl,hm,hlen,hel,_,_⟩
    ·refine ⟨[.lst [] 0],rfl,?_,one _ _ (.lnil 0 0 none (Nat.le_refl _) (fun _=>rfl)) rfl,by simp [avBulkL,avBulk,Rows.uptoBulk]⟩
     simp only [Typed,hu]
     exact ⟨[],rfl,by simp,by simp,by simp⟩
    ·simp only [DataW.weights,hu,List.all_cons,List.all_append,Bool.and_eq_true,decide_eq_true_eq] at hw
     obtain ⟨hw1,hw2,_⟩:=hw
     have each:∀ i,i < len→∃ av:List AV,av.length=P.cellsOf e∧Typed P d e av∧(∀ (r:Nat) (c:AV),av[r]?=some c→∃ v,w.cell? ((a.add (i * P.cellsOf e)).add r)=some v∧Rel (fun b=>b < w.heap.size) w c v∧v.oneCell'=true)∧∀ y,elems[i]?=some y→avBulkL av≤Rows.uptoBulk y.1:=by
      intro i hi
      have hy:=hel i hi
      obtain ⟨y,hy2⟩:∃ y,elems[i]?=some y:=⟨elems[i]'(by omega),List.getElem?_eq_getElem (by omega)⟩
      rw [hy2,Option.bind_eq_some_iff] at hy
      obtain ⟨cs',hcs,hy3⟩:=hy
      have hyw:(y.1.weights P e).all (·≤reachBytes)=true:=weightsAll_mem hw2 y.1 (List.mem_map.2 ⟨y,List.mem_of_getElem? hy2,rfl⟩)
      obtain ⟨av,h1,h2,h3,h5⟩:=reads hlaid d n e cs' y hp hy3 hyw
      obtain ⟨_,hcl,hcc⟩:=World.cells?_some hcs
      refine ⟨av,by rw [h1,hcl],h2,fun r c hc=>?_,fun y' hy'=>by rw [hy2] at hy'; cases hy'; exact h5⟩
      have hr:r < cs'.length:=by rw [← h1]; exact (List.getElem?_eq_some_iff.1 hc).1
      have hcell:=hcc r (by rw [← hcl]; exact hr)
      refine ⟨cs'[r],?_,h3 r c _ hc (List.getElem?_eq_getElem hr)⟩
      rw [hcell,List.getElem?_eq_getElem hr]
     obtain ⟨es,hes,hep⟩:=choose_list len each
     have hz:∀ x∈es,x.length=P.cellsOf e:=by
      intro x hx
      obtain ⟨i,hi⟩:=List.getElem?_of_mem hx
      exact (hep i x hi).1
     have htyped:Typed P (d+1) t [.lst es.flatten es.length]:=by
      simp only [Typed,hu]
      refine ⟨es,rfl,?_,by omega,fun x hx=>?_⟩
      ·refine Nat.le_trans (Nat.mul_le_mul_right _ ?_) hw1
       simp [hes,hlen]
      ·obtain ⟨i,hi⟩:=List.getElem?_of_mem hx
       exact ⟨(hep i x hi).1,(hep i x hi).2.1⟩
     have hbulk:avBulkL es.flatten≤Rows.uptoBulkAll (elems.map (·.1)):=by
      refine avBulkL_flat es _ (by simp [hes,hlen]) (fun i x y hx hy=>?_)
      rw [List.getElem?_map] at hy
      obtain ⟨y',hy',rfl⟩:=Option.map_eq_some_iff.1 hy
      exact (hep i x hx).2.2.2 y' hy'
     refine ⟨_,rfl,htyped,one _ _ ?_ rfl,by simp only [avBulkL,avBulk,Rows.uptoBulk]; omega⟩
     rw [hes]
     by_cases hne:es.flatten=[]
     ·rw [hne]
      exact .lnil len cap _ hl (fun hA=>by cases hA)
     ·have hcell:∀ (p:Nat) (c:AV),es.flatten[p]?=some c→∃ v,w.cell? (a.add p)=some v∧Rel (fun b=>b < w.heap.size) w c v∧v.oneCell'=true:=by
       intro p c hc
       obtain ⟨i,r,x,rfl,hr,hx,hxr⟩:=flat_get es hz p c hc
       obtain ⟨v,hv1,hv2⟩:=(hep i x hx).2.2.1 r c hxr
       refine ⟨v,?_,hv2⟩
       rw [← hv1]
       congr 1
       unfold Addr.add
       repeat' split
       all_goals simp_all
       all_goals omega
      obtain ⟨c0,hc0⟩:∃ c0,es.flatten[0]?=some c0:=by
       cases hfl:es.flatten with
       | nil=>exact absurd hfl hne
       | cons c l=>exact ⟨c,rfl⟩
      obtain ⟨v0,hv0,_⟩:=hcell 0 c0 hc0
      obtain ⟨ab,ao,asp⟩:=a
      have hv0':w.cell? ⟨ab,ao,asp⟩=some v0:=hv0
      obtain ⟨hsp,hab⟩:asp=none∧ab < w.heap.size:=by
       unfold World.cell? at hv0'
       split at hv0'
       ·rename_i c' _ _ hh
        split at hv0'
        ·cases hv0'
        ·rename_i hns
         exact ⟨by simpa using hns,(Array.getElem?_eq_some_iff.1 hh).1⟩
       ·cases hv0'
      subst hsp
      have hadd:∀ p,(⟨ab,ao,none⟩:Addr).add p=⟨ab,ao+p,none⟩:=fun p=>add_none ab ao p
      refine .lst _ len cap ab ao (fun p=>(w.cell? ⟨ab,ao+p,none⟩).getD undef) hl hab (fun p c hc=>?_) (fun p c hc=>?_)
      ·obtain ⟨v,h1,h2,h3⟩:=hcell p c hc
       rw [hadd] at h1
       simp only [h1,Option.getD_some]
       exact ⟨trivial,h3⟩
      ·obtain ⟨v,h1,h2,h3⟩:=hcell p c hc
       rw [hadd] at h1
       simp only [h1,Option.getD_some]
       exact h2
   | array n0 e =>
    simp only [hu,Bool.and_eq_true,decide_eq_true_eq] at hp
    obtain ⟨hts,hpe⟩:=hp
    obtain ⟨xs,n,rfl,rfl,hcl,hxl,hxs⟩:=DataW.trod_array hu h
    obtain ⟨_,hsum⟩:=kid_array hlaid hts hu
    simp only [DataW.weights,hu] at hw
    have each:∀ i,i < n0→∃ av:List AV,av.length=P.cellsOf e∧Typed P d e av∧(∀ (r:Nat) (a:AV) (v:Value),av[r]?=some a→cs[i * P.cellsOf e+r]?=some v→Rel (fun b=>b < w.heap.size) w a v∧v.oneCell'=true)∧∀ y,xs[i]?=some y→avBulkL av≤Rows.uptoBulk y.1:=by
     intro i hi
     obtain ⟨y,hy⟩:∃ y,xs[i]?=some y:=⟨xs[i]'(by omega),List.getElem?_eq_getElem (by omega)⟩
     have ht:=hxs i hi
     rw [hy] at ht
     have hyw:(y.1.weights P e).all (·≤reachBytes)=true:=weightsAll_mem hw y.1 (List.mem_map.2 ⟨y,List.mem_of_getElem? hy,rfl⟩)
     obtain ⟨av,h1,h2,h3,h4⟩:=reads hlaid d n e _ y hpe ht hyw
     have hlen:((cs.drop (i * P.cellsOf e)).take (P.cellsOf e)).length=P.cellsOf e:=by
      simp only [List.length_take,List.length_drop,hcl,hsum]
      have:(i+1) * P.cellsOf e≤n0 * P.cellsOf e:=Nat.mul_le_mul_right _ hi
      rw [Nat.add_mul] at this
      omega
     refine ⟨av,by rw [h1,hlen],h2,fun r a v ha hv=>h3 r a v ha ?_,fun y' hy'=>by rw [hy] at hy'; cases hy'; exact h4⟩
     have hr:r < P.cellsOf e:=by rw [← hlen,← h1]; exact (List.getElem?_eq_some_iff.1 ha).1
     rw [List.getElem?_take,if_pos hr,List.getElem?_drop]
     exact hv
    obtain ⟨es,hes,hep⟩:=choose_list n0 each
    have hz:∀ x∈es,x.length=P.cellsOf e:=by
     intro x hx
     obtain ⟨i,hi⟩:=List.getElem?_of_mem hx
     exact (hep i x hi).1
    refine ⟨es.flatten,by rw [flat_len es hz,hes,hcl,hsum],?_,fun p a v ha hv=>?_,?_⟩
    ·simp only [Typed,hu]
     refine ⟨es,rfl,hes,fun x hx=>?_⟩
     obtain ⟨i,hi⟩:=List.getElem?_of_mem hx
     exact ⟨(hep i x hi).1,(hep i x hi).2.1⟩
    ·obtain ⟨i,r,x,rfl,hr,hx,hxr⟩:=flat_get es hz p a ha
     exact (hep i x hx).2.2.1 r a v hxr hv
    ·simp only [Rows.uptoBulk]
     have:=avBulkL_flat es (xs.map (·.1)) (by simp [hes,hxl]) (fun i x y hx hy=>by
      rw [List.getElem?_map] at hy
      obtain ⟨y',hy',rfl⟩:=Option.map_eq_some_iff.1 hy
      exact (hep i x hx).2.2.2 y' hy')
     omega
   | struct fs =>
    simp only [hu,Bool.and_eq_true,decide_eq_true_eq,List.all_eq_true] at hp
    obtain ⟨hts,hpf⟩:=hp
    obtain ⟨xs,n,rfl,rfl,hcl,hxl,hxs⟩:=DataW.trod_struct hu h
    obtain ⟨_,hsum,hoff⟩:=kid_struct hlaid hts hu
    simp only [DataW.weights,hu] at hw
    have each:∀ i,i < fs.size→∃ av:List AV,∀ (f:Field),fs[i]?=some f→av.length=P.cellsOf f.type∧Typed P d f.type av∧(∀ (r:Nat) (a:AV) (v:Value),av[r]?=some a→cs[f.offset+r]?=some v→Rel (fun b=>b < w.heap.size) w a v∧v.oneCell'=true)∧∀ y,xs[i]?=some y→avBulkL av≤Rows.uptoBulk y.1:=by
     intro i hi
     obtain ⟨f,hf⟩:∃ f,fs[i]?=some f:=⟨fs[i],Array.getElem?_eq_getElem hi⟩
     obtain ⟨y,hy⟩:∃ y,xs[i]?=some y:=⟨xs[i]'(by omega),List.getElem?_eq_getElem (by omega)⟩
     have hfl:fs.toList[i]?=some f:=by simpa using hf
     have ht:=hxs i f hf
     rw [hy] at ht
     have hyw:(y.1.weights P f.type).all (·≤reachBytes)=true:=weightsEach_at hw i f.type y.1 (by simp [hf]) (by simp [hy])
     obtain ⟨av,h1,h2,h3,h4⟩:=reads hlaid d n f.type _ y (hpf f (List.mem_of_getElem? hfl)) ht hyw
     have hlen:((cs.drop f.offset).take (P.cellsOf f.type)).length=P.cellsOf f.type:=by
      have h5:=hoff i f hfl
      have h6:((fs.toList.take (i+1)).map fun f=>P.cellsOf f.type).sum≤(fs.toList.map fun f=>P.cellsOf f.type).sum:=by
       conv=>rhs; rw [← List.take_append_drop (i+1) fs.toList]
       rw [List.map_append,List.sum_append]
       omega
      have h7:fs.toList.take (i+1)=fs.toList.take i++[f]:=by
       rw [List.take_add_one,hfl]
       rfl
      rw [h7,List.map_append,List.sum_append] at h6
      simp only [List.map_cons,List.map_nil,List.sum_cons,List.sum_nil] at h6
      simp only [List.length_take,List.length_drop]
      omega
     refine ⟨av,fun f' hf'=>?_⟩
     rw [hf] at hf'
     cases hf'
     refine ⟨by rw [h1,hlen],h2,fun r a v ha hv=>h3 r a v ha ?_,fun y' hy'=>by rw [hy] at hy'; cases hy'; exact h4⟩
     have hr:r < P.cellsOf f.type:=by rw [← hlen,← h1]; exact (List.getElem?_eq_some_iff.1 ha).1
     rw [List.getElem?_take,if_pos hr,List.getElem?_drop]
     exact hv
    obtain ⟨es,hes,hep⟩:=choose_list fs.size each
    have hml:es.map List.length=fs.toList.map fun f=>P.cellsOf f.type :=
     map_len _ es fs.toList (by simpa using hes) (fun i x f hx hf=>(hep i x hx f (by simpa using hf)).1)
    refine ⟨es.flatten,by rw [flat_len2,hml,hcl,hsum],?_,fun p a v ha hv=>?_,?_⟩
    ·simp only [Typed,hu]
     exact ⟨es,rfl,hes,fun i f x hf hx=>⟨(hep i x hx f hf).1,(hep i x hx f hf).2.1⟩⟩
    ·obtain ⟨i,r,x,rfl,hx,hxr⟩:=flat_get2 es p a ha
     have hi:i < fs.size:=by rw [← hes]; exact (List.getElem?_eq_some_iff.1 hx).1
     have hf:fs[i]?=some fs[i]:=Array.getElem?_eq_getElem hi
     refine (hep i x hx fs[i] hf).2.2.1 r a v hxr ?_
     have e1:((es.take i).map List.length).sum=fs[i].offset:=by
      rw [List.map_take,hml,← List.map_take,hoff i fs[i] (by simp [hi])]
     rw [← e1]
     exact hv
    ·simp only [Rows.uptoBulk]
     have:=avBulkL_flat es (xs.map (·.1)) (by simp [hes,hxl]) (fun i x y hx hy=>by
      rw [List.getElem?_map] at hy
      obtain ⟨y',hy',rfl⟩:=Option.map_eq_some_iff.1 hy
      have hi:i < fs.size:=by rw [← hes]; exact (List.getElem?_eq_some_iff.1 hx).1
      exact (hep i x hx fs[i] (Array.getElem?_eq_getElem hi)).2.2.2 y' hy')
     omega
   | _=>simp [hu] at hp
end Go.Proofs.Ytglgdaeimfdpfaa.VM
