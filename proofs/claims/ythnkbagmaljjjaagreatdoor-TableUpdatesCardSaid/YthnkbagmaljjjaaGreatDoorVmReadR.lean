/- Words and rules that the proof uses. -/
import Derived.Test.YthnkbagmaljjjaaGreatDoorVmLaw
namespace Go.Proofs.YthnkbagmaljjjaaGreatDoor.VM
open Go Go.RowKit Go.ChangeShapes Go.WideShapes
def plainS1 (P:Program) (S:List TypeId) (t:TypeId):Bool:=match P.underlying t with
 | some .bool=>true
 | some (.int _)=>true
 | some .string=>true
 | some (.slice e)=>S.contains e
 | some (.array _ e)=>decide (t < P.types.size) && S.contains e
 | some (.struct fs)=>decide (t < P.types.size) && fs.toList.all fun f=>S.contains f.type
 | _=>false
def plainS (P:Program) (S:List TypeId):Bool:=S.all (plainS1 P S)
theorem readsR {H:Type} {enc:TypeId×Value→H} {P:Program} {w:World} {base:Nat} {sp:Nat→Bool} {held:Bool} (hlaid:laidOutB P=true) {S:List TypeId} (hS:plainS P S=true):∀ (fuel:Nat) (t:TypeId) (cs:List Value) (x:DataW H×List MemPlace),
  S.contains t=true→DataW.trod enc P w base sp held fuel t cs=some x→(x.1.weights P t).all (·≤reachBytes)=true →
  ∃ av:List AV,av.length=cs.length∧Typed P fuel t av∧(∀ (i:Nat) (a:AV) (v:Value),av[i]?=some a→cs[i]?=some v→(Rel (fun b=>b < w.heap.size) w a v∧v.oneCell'=true))∧avBulkL av≤Rows.uptoBulk x.1:=by
 intro fuel
 induction fuel with
 | zero =>
  intro t cs x _ h _
  simp [DataW.trod] at h
 | succ d reads =>
  intro t cs x hp h hw
  have one:∀ (a:AV) (v:Value),Rel (fun b=>b < w.heap.size) w a v→v.oneCell'=true→∀ (i:Nat) (a':AV) (v':Value),[a][i]?=some a'→[v][i]?=some v'→Rel (fun b=>b < w.heap.size) w a' v'∧v'.oneCell'=true:=by
   intro a v hr h1 i a' v' ha hv
   match i,ha,hv with
   | 0,ha,hv =>
    simp only [List.getElem?_cons_zero,Option.some.injEq] at ha hv
    subst ha
    subst hv
    exact ⟨hr,h1⟩
  have hp1:plainS1 P S t=true:=List.all_eq_true.1 hS t (by simpa using hp)
  clear hp
  have hp:=hp1
  clear hp1
  unfold plainS1 at hp
  cases hu:P.underlying t with
  | none=>simp [hu] at hp
  | some u =>
   cases u with
   | bool =>
    obtain ⟨b,rfl,rfl⟩:=DataW.trod_bool hu h
    exact ⟨[.bool b],rfl,by simp [Typed,hu],one _ _ (.sc _ rfl) rfl,by simp [avBulkL,avBulk,Rows.uptoBulk]⟩
   | int k =>
    obtain ⟨n,rfl,rfl,hwf⟩:=DataW.trod_int hu h
    exact ⟨[.sc (.int k n)],rfl,by simp [Typed,hu,hwf],one _ _ (.sc _ rfl) rfl,by simp [avBulkL,avBulk,Rows.uptoBulk]⟩
   | string =>
    obtain ⟨s,rfl,rfl,hs⟩:=DataW.trod_string hu h
    refine ⟨[.sc (.string s)],rfl,?_,one _ _ (.sc _ rfl) rfl,by simp [avBulkL,avBulk,Rows.uptoBulk]⟩
    simp only [Typed,hu]
    refine ⟨s.data.toList,rfl,?_⟩
    simpa [DataW.weights] using hw
   | slice e =>
    simp only [hu] at hp
    rcases DataW.trod_slice hu h with ⟨rfl,rfl⟩ | ⟨a,len,cap,elems,rest,n,hdn,rfl,rfl,hb,hl,hm,hlen,hel,_,_⟩
    ·refine ⟨[.lst [] 0],rfl,?_,one _ _ (.lnil 0 0 none (Nat.le_refl _) (fun _=>rfl)) rfl,by simp [avBulkL,avBulk,Rows.uptoBulk]⟩
     simp only [Typed,hu]
     exact ⟨[],rfl,by simp,by simp,by simp⟩
    ·have hdn:n=d:=by omega
     simp only [hdn] at hel
     simp only [DataW.weights,hu,List.all_cons,List.all_append,Bool.and_eq_true,decide_eq_true_eq] at hw
     obtain ⟨hw1,hw2,_⟩:=hw
     have each:∀ i,i < len→∃ av:List AV,av.length=P.cellsOf e∧Typed P d e av∧(∀ (r:Nat) (c:AV),av[r]?=some c→∃ v,w.cell? ((a.add (i * P.cellsOf e)).add r)=some v∧Rel (fun b=>b < w.heap.size) w c v∧v.oneCell'=true)∧∀ y,elems[i]?=some y→avBulkL av≤Rows.uptoBulk y.1:=by
      intro i hi
      have hy:=hel i hi
      obtain ⟨y,hy2⟩:∃ y,elems[i]?=some y:=⟨elems[i]'(by omega),List.getElem?_eq_getElem (by omega)⟩
      rw [hy2,Option.bind_eq_some_iff] at hy
      obtain ⟨cs',hcs,hy3⟩:=hy
      have hyw:(y.1.weights P e).all (·≤reachBytes)=true:=weightsAll_mem hw2 y.1 (List.mem_map.2 ⟨y,List.mem_of_getElem? hy2,rfl⟩)
      obtain ⟨av,h1,h2,h3,h5⟩:=reads e cs' y hp hy3 hyw
      obtain ⟨_,hcl,hcc⟩:=World.cells?_some hcs
      refine ⟨av,by rw [h1,hcl],h2,fun r c hc=>?_,fun y' hy'=>by rw [hy2] at hy'; cases hy'; exact h5⟩
      have hr:r < cs'.length:=by rw [← h1]; exact (List.getElem?_eq_some_iff.1 hc).1
      have hcell:=hcc r (by rw [← hcl]; exact hr)
      refine ⟨cs'[r],?_,h3 r c _ hc (List.getElem?_eq_getElem hr)⟩
      rw [hcell,List.getElem?_eq_getElem hr]
     obtain ⟨es,hes,hep⟩:=choose_list len each
     have hz:∀ x∈es,x.length=P.cellsOf e:=by
      intro x hx
      obtain ⟨i,hi⟩:=List.getElem?_of_mem hx
      exact (hep i x hi).1
     have htyped:Typed P (d+1) t [.lst es.flatten es.length]:=by
      simp only [Typed,hu]
      refine ⟨es,rfl,?_,by omega,fun x hx=>?_⟩
      ·refine Nat.le_trans (Nat.mul_le_mul_right _ ?_) hw1
       simp [hes,hlen]
      ·obtain ⟨i,hi⟩:=List.getElem?_of_mem hx
       exact ⟨(hep i x hi).1,(hep i x hi).2.1⟩
     have hbulk:avBulkL es.flatten≤Rows.uptoBulkAll (elems.map (·.1)):=by
      refine avBulkL_flat es _ (by simp [hes,hlen]) (fun i x y hx hy=>?_)
      rw [List.getElem?_map] at hy
      obtain ⟨y',hy',rfl⟩:=Option.map_eq_some_iff.1 hy
      exact (hep i x hx).2.2.2 y' hy'
     refine ⟨_,rfl,htyped,one _ _ ?_ rfl,by simp only [avBulkL,avBulk,Rows.uptoBulk]; omega⟩
     rw [hes]
     by_cases hne:es.flatten=[]
     ·rw [hne]
      exact .lnil len cap _ hl (fun hA=>by cases hA)
     ·have hcell:∀ (p:Nat) (c:AV),es.flatten[p]?=some c→∃ v,w.cell? (a.add p)=some v∧Rel (fun b=>b < w.heap.size) w c v∧v.oneCell'=true:=by
       intro p c hc
       obtain ⟨i,r,x,rfl,hr,hx,hxr⟩:=flat_get es hz p c hc
       obtain ⟨v,hv1,hv2⟩:=(hep i x hx).2.2.1 r c hxr
       refine ⟨v,?_,hv2⟩
       rw [← hv1]
       congr 1
       unfold Addr.add
       repeat' split
       all_goals simp_all
       all_goals omega
      obtain ⟨c0,hc0⟩:∃ c0,es.flatten[0]?=some c0:=by
       cases hfl:es.flatten with
       | nil=>exact absurd hfl hne
       | cons c l=>exact ⟨c,rfl⟩
      obtain ⟨v0,hv0,_⟩:=hcell 0 c0 hc0
      obtain ⟨ab,ao,asp⟩:=a
      have hv0':w.cell? ⟨ab,ao,asp⟩=some v0:=hv0
      obtain ⟨hsp,hab⟩:asp=none∧ab < w.heap.size:=by
       unfold World.cell? at hv0'
       split at hv0'
       ·rename_i c' _ _ hh
        split at hv0'
        ·cases hv0'
        ·rename_i hns
         exact ⟨by simpa using hns,(Array.getElem?_eq_some_iff.1 hh).1⟩
       ·cases hv0'
      subst hsp
      have hadd:∀ p,(⟨ab,ao,none⟩:Addr).add p=⟨ab,ao+p,none⟩:=fun p=>add_none ab ao p
      refine .lst _ len cap ab ao (fun p=>(w.cell? ⟨ab,ao+p,none⟩).getD undef) hl hab (fun p c hc=>?_) (fun p c hc=>?_)
      ·obtain ⟨v,h1,h2,h3⟩:=hcell p c hc
       rw [hadd] at h1
       simp only [h1,Option.getD_some]
       exact ⟨trivial,h3⟩
      ·obtain ⟨v,h1,h2,h3⟩:=hcell p c hc
       rw [hadd] at h1
       simp only [h1,Option.getD_some]
       exact h2
   | array n0 e =>
    simp only [hu,Bool.and_eq_true,decide_eq_true_eq] at hp
    obtain ⟨hts,hpe⟩:=hp
    obtain ⟨xs,n,hdn,rfl,hcl,hxl,hxs⟩:=DataW.trod_array hu h
    have hdn:n=d:=by omega
    simp only [hdn] at hxs
    obtain ⟨_,hsum⟩:=kid_array hlaid hts hu
    simp only [DataW.weights,hu] at hw
    have each:∀ i,i < n0→∃ av:List AV,av.length=P.cellsOf e∧Typed P d e av∧(∀ (r:Nat) (a:AV) (v:Value),av[r]?=some a→cs[i * P.cellsOf e+r]?=some v→Rel (fun b=>b < w.heap.size) w a v∧v.oneCell'=true)∧∀ y,xs[i]?=some y→avBulkL av≤Rows.uptoBulk y.1:=by
     intro i hi
     obtain ⟨y,hy⟩:∃ y,xs[i]?=some y:=⟨xs[i]'(by omega),List.getElem?_eq_getElem (by omega)⟩
     have ht:=hxs i hi
     rw [hy] at ht
     have hyw:(y.1.weights P e).all (·≤reachBytes)=true:=weightsAll_mem hw y.1 (List.mem_map.2 ⟨y,List.mem_of_getElem? hy,rfl⟩)
     obtain ⟨av,h1,h2,h3,h4⟩:=reads e _ y hpe ht hyw
     have hlen:((cs.drop (i * P.cellsOf e)).take (P.cellsOf e)).length=P.cellsOf e:=by
      simp only [List.length_take,List.length_drop,hcl,hsum]
      have:(i+1) * P.cellsOf e≤n0 * P.cellsOf e:=Nat.mul_le_mul_right _ hi
      rw [Nat.add_mul] at this
      omega
     refine ⟨av,by rw [h1,hlen],h2,fun r a v ha hv=>h3 r a v ha ?_,fun y' hy'=>by rw [hy] at hy'; cases hy'; exact h4⟩
     have hr:r < P.cellsOf e:=by rw [← hlen,← h1]; exact (List.getElem?_eq_some_iff.1 ha).1
     rw [List.getElem?_take,if_pos hr,List.getElem?_drop]
     exact hv
    obtain ⟨es,hes,hep⟩:=choose_list n0 each
    have hz:∀ x∈es,x.length=P.cellsOf e:=by
     intro x hx
     obtain ⟨i,hi⟩:=List.getElem?_of_mem hx
     exact (hep i x hi).1
    refine ⟨es.flatten,by rw [flat_len es hz,hes,hcl,hsum],?_,fun p a v ha hv=>?_,?_⟩
    ·simp only [Typed,hu]
     refine ⟨es,rfl,hes,fun x hx=>?_⟩
     obtain ⟨i,hi⟩:=List.getElem?_of_mem hx
     exact ⟨(hep i x hi).1,(hep i x hi).2.1⟩
    ·obtain ⟨i,r,x,rfl,hr,hx,hxr⟩:=flat_get es hz p a ha
     exact (hep i x hx).2.2.1 r a v hxr hv
    ·simp only [Rows.uptoBulk]
     have:=avBulkL_flat es (xs.map (·.1)) (by simp [hes,hxl]) (fun i x y hx hy=>by
      rw [List.getElem?_map] at hy
      obtain ⟨y',hy',rfl⟩:=Option.map_eq_some_iff.1 hy
      exact (hep i x hx).2.2.2 y' hy')
     omega
   | struct fs =>
    simp only [hu,Bool.and_eq_true,decide_eq_true_eq,List.all_eq_true] at hp
    obtain ⟨hts,hpf⟩:=hp
    obtain ⟨xs,n,hdn,rfl,hcl,hxl,hxs⟩:=DataW.trod_struct hu h
    have hdn:n=d:=by omega
    simp only [hdn] at hxs
    obtain ⟨_,hsum,hoff⟩:=kid_struct hlaid hts hu
    simp only [DataW.weights,hu] at hw
    have each:∀ i,i < fs.size→∃ av:List AV,∀ (f:Field),fs[i]?=some f→av.length=P.cellsOf f.type∧Typed P d f.type av∧(∀ (r:Nat) (a:AV) (v:Value),av[r]?=some a→cs[f.offset+r]?=some v→Rel (fun b=>b < w.heap.size) w a v∧v.oneCell'=true)∧∀ y,xs[i]?=some y→avBulkL av≤Rows.uptoBulk y.1:=by
     intro i hi
     obtain ⟨f,hf⟩:∃ f,fs[i]?=some f:=⟨fs[i],Array.getElem?_eq_getElem hi⟩
     obtain ⟨y,hy⟩:∃ y,xs[i]?=some y:=⟨xs[i]'(by omega),List.getElem?_eq_getElem (by omega)⟩
     have hfl:fs.toList[i]?=some f:=by simpa using hf
     have ht:=hxs i f hf
     rw [hy] at ht
     have hyw:(y.1.weights P f.type).all (·≤reachBytes)=true:=weightsEach_at hw i f.type y.1 (by simp [hf]) (by simp [hy])
     obtain ⟨av,h1,h2,h3,h4⟩:=reads f.type _ y (hpf f (List.mem_of_getElem? hfl)) ht hyw
     have hlen:((cs.drop f.offset).take (P.cellsOf f.type)).length=P.cellsOf f.type:=by
      have h5:=hoff i f hfl
      have h6:((fs.toList.take (i+1)).map fun f=>P.cellsOf f.type).sum≤(fs.toList.map fun f=>P.cellsOf f.type).sum:=by
       conv=>rhs; rw [← List.take_append_drop (i+1) fs.toList]
       rw [List.map_append,List.sum_append]
       omega
      have h7:fs.toList.take (i+1)=fs.toList.take i++[f]:=by
       rw [List.take_add_one,hfl]
       rfl
      rw [h7,List.map_append,List.sum_append] at h6
      simp only [List.map_cons,List.map_nil,List.sum_cons,List.sum_nil] at h6
      simp only [List.length_take,List.length_drop]
      omega
     refine ⟨av,fun f' hf'=>?_⟩
     rw [hf] at hf'
     cases hf'
     refine ⟨by rw [h1,hlen],h2,fun r a v ha hv=>h3 r a v ha ?_,fun y' hy'=>by rw [hy] at hy'; cases hy'; exact h4⟩
     have hr:r < P.cellsOf f.type:=by rw [← hlen,← h1]; exact (List.getElem?_eq_some_iff.1 ha).1
     rw [List.getElem?_take,if_pos hr,List.getElem?_drop]
     exact hv
    obtain ⟨es,hes,hep⟩:=choose_list fs.size each
    have hml:es.map List.length=fs.toList.map fun f=>P.cellsOf f.type :=
     map_len _ es fs.toList (by simpa using hes) (fun i x f hx hf=>(hep i x hx f (by simpa using hf)).1)
    refine ⟨es.flatten,by rw [flat_len2,hml,hcl,hsum],?_,fun p a v ha hv=>?_,?_⟩
    ·simp only [Typed,hu]
     exact ⟨es,rfl,hes,fun i f x hf hx=>⟨(hep i x hx f hf).1,(hep i x hx f hf).2.1⟩⟩
    ·obtain ⟨i,r,x,rfl,hx,hxr⟩:=flat_get2 es p a ha
     have hi:i < fs.size:=by rw [← hes]; exact (List.getElem?_eq_some_iff.1 hx).1
     have hf:fs[i]?=some fs[i]:=Array.getElem?_eq_getElem hi
     refine (hep i x hx fs[i] hf).2.2.1 r a v hxr ?_
     have e1:((es.take i).map List.length).sum=fs[i].offset:=by
      rw [List.map_take,hml,← List.map_take,hoff i fs[i] (by simp [hi])]
     rw [← e1]
     exact hv
    ·simp only [Rows.uptoBulk]
     have:=avBulkL_flat es (xs.map (·.1)) (by simp [hes,hxl]) (fun i x y hx hy=>by
      rw [List.getElem?_map] at hy
      obtain ⟨y',hy',rfl⟩:=Option.map_eq_some_iff.1 hy
      have hi:i < fs.size:=by rw [← hes]; exact (List.getElem?_eq_some_iff.1 hx).1
      exact (hep i x hx fs[i] (Array.getElem?_eq_getElem hi)).2.2.2 y' hy')
     omega
   | _=>simp [hu] at hp
theorem plain_cellsR {P:Program} {W:World} {base:Nat} {S:List TypeId} (hS:plainS P S=true) {t:TypeId} {v:Value} (hp:S.contains t=true) (hv:Value.okWide P W .any base t v) :
  (v.cells.toList=[v]∧∃ u,P.underlying t=some u∧isAggD u=false)∨∃ u cs,P.underlying t=some u∧isAggD u=true∧v=.agg cs:=by
 have hp:plainS1 P S t=true:=List.all_eq_true.1 hS t (by simpa using hp)
 ·unfold plainS1 at hp
  cases hu:P.underlying t with
  | none=>simp [hu] at hp
  | some u =>
   cases u with
   | bool=>obtain ⟨b,rfl⟩:=okWide_bool hu hv; exact .inl ⟨rfl,_,rfl,rfl⟩
   | int k=>obtain ⟨n,rfl⟩:=okWide_int hu hv; exact .inl ⟨rfl,_,rfl,rfl⟩
   | string=>obtain ⟨s,rfl⟩:=okWide_string hu hv; exact .inl ⟨rfl,_,rfl,rfl⟩
   | slice e=>obtain ⟨a,l,c,rfl⟩:=okWide_slice hu hv; exact .inl ⟨rfl,_,rfl,rfl⟩
   | struct fs=>obtain ⟨cs,rfl,_⟩:=okWide_struct hu hv; exact .inr ⟨_,cs,rfl,rfl,rfl⟩
   | array n e=>obtain ⟨cs,rfl,_⟩:=okWide_array hu hv; exact .inr ⟨_,cs,rfl,rfl,rfl⟩
   | _=>simp [hu] at hp
theorem argsReadR {H:Type} {enc:TypeId×Value→H} {P:Program} {W:World} {base:Nat} {sp:Nat→Bool} (hlaid:laidOutB P=true) {S:List TypeId} (hS:plainS P S=true):∀ (ts:List TypeId) (vs:List Value) (ds:List (DataW H)) (p:List MemPlace) (us:List TypeId) (gs:List (DataW H)),
  DataW.TrodAll enc P W 0 sp true ts vs ds p→ts.all (S.contains ·)=true→(DataW.weightsEach P (ts++us) (ds++gs)).all (·≤reachBytes)=true→(∀ (j:Nat) t v,ts[j]?=some t→vs[j]?=some v→Value.okWide P W .any base t v) →
  ∃ avs:List AV,avs.length=vs.length∧vs.length=ts.length∧(∀ (i:Nat) (a:AV) (v:Value),avs[i]?=some a→vs[i]?=some v→Rel (fun b=>b < W.heap.size) W a v)∧(∀ (i:Nat) (t:TypeId) (a:AV),ts[i]?=some t→avs[i]?=some a→∃ d,ArgTyped P d t a)∧avBulkL avs≤Rows.uptoBulkAll ds
 | [],vs,ds,p,us,gs,h,_,_,_=>by
  obtain ⟨rfl,rfl,rfl⟩:=trodAll_nil h
  exact ⟨[],rfl,rfl,by simp,by simp,by simp [avBulkL]⟩
 | t::ts,vs,ds,p,us,gs,h,hp,hw,hv=>by
  obtain ⟨v,vs,y,ds,p0,q0,rfl,rfl,rfl,h0,hr⟩:=trodAll_cons h
  simp only [List.all_cons,Bool.and_eq_true] at hp
  simp only [List.cons_append,DataW.weightsEach,List.all_append,Bool.and_eq_true] at hw
  have hv0:=hv 0 t v rfl rfl
  obtain ⟨fuel,hf⟩:=h0
  have key:∃ a:AV,(∃ d,ArgTyped P d t a)∧Rel (fun b=>b < W.heap.size) W a v∧avBulk a≤Rows.uptoBulk y:=by
   rcases plain_cellsR hS hp.1 hv0 with ⟨hc,u,hu,hns⟩ | ⟨u,cs,hu,hag,rfl⟩
   ·rw [hc] at hf
    obtain ⟨av,hl,hty,hrel,hbk⟩:=readsR hlaid hS fuel t [v] _ hp.1 hf hw.1
    obtain ⟨a,rfl⟩:∃ a,av=[a]:=by
     match av,hl with
     | [a],_=>exact ⟨a,rfl⟩
    refine ⟨a,⟨fuel,?_⟩,(hrel 0 _ _ rfl rfl).1,by simp only [avBulkL] at hbk; omega⟩
    unfold ArgTyped
    rw [hu]
    cases u<;>first | exact hty | cases hns
   ·obtain ⟨av,hl,hty,hrel,hbk⟩:=readsR hlaid hS fuel t cs.toList _ hp.1 hf hw.1
    refine ⟨.agg av,⟨fuel,?_⟩,.agg av cs (by simpa using hl) (fun u hmem=>?_) (fun i a u ha hu'=>(hrel i a u ha (by simpa using hu')).1),by simpa only [avBulk] using hbk⟩
    ·unfold ArgTyped
     rw [hu]
     cases u<;>first | exact ⟨av,rfl,hty⟩ | cases hag
    ·obtain ⟨i,hi,he⟩:=Array.getElem_of_mem hmem
     have hi2:i < av.length:=by rw [hl]; simpa using hi
     exact (hrel i av[i] u (List.getElem?_eq_getElem hi2) (by simp [hi,he])).2
  obtain ⟨a,hty,hrel,hbk⟩:=key
  obtain ⟨avs,h1,h2,h3,h4,h5⟩:=argsReadR hlaid hS ts vs ds q0 us gs hr hp.2 hw.2 (fun j t' v' ht hv'=>hv (j+1) t' v' (by simpa using ht) (by simpa using hv'))
  refine ⟨a::avs,by simp [h1],by simp [h2],fun i b u hb hu=>?_,fun i t' b ht hb=>?_,by simp only [avBulkL]; rw [Rows.uptoBulkAll]; omega⟩
  ·cases i with
   | zero =>
    simp only [List.getElem?_cons_zero,Option.some.injEq] at hb hu
    subst hb
    subst hu
    exact hrel
   | succ i=>exact h3 i b u (by simpa using hb) (by simpa using hu)
  ·cases i with
   | zero =>
    simp only [List.getElem?_cons_zero,Option.some.injEq] at hb ht
    subst hb
    subst ht
    exact hty
   | succ i=>exact h4 i t' b (by simpa using ht) (by simpa using hb)
theorem rowCallR {H:Type} {enc:TypeId×Value→H} {P:Program} {F:FuncId} {W:World} {base:Nat} {args:Array Value} {ts us:List TypeId} {ds gs:List (DataW H)} {p:List MemPlace} (hlaid:laidOutB P=true) (hts:ts.all (fun t=>P.readableRec t && decide (t < P.types.size))=true)
  (hA:DataW.TrodAll enc P W 0 (fun _=>true) true ts args.toList ds p) {S:List TypeId} (hS:plainS P S=true) (hpl:ts.all (S.contains ·)=true) (hsz:(DataW.weightsEach P (ts++us) (ds++gs)).all (·≤reachBytes)=true)
  (hval:∀ (j:Nat) t v,ts[j]?=some t→args[j]?=some v→Value.okWide P W .any base t v) (htab:Tabs (fun b=>b < W.heap.size) W)
  (hac:∀ avs:List AV,avs.length=ts.length→(∀ (i:Nat) (t:TypeId) (a:AV),ts[i]?=some t→avs[i]?=some a→∃ d,ArgTyped P d t a)→avBulkL avs≤Rows.uptoBulkAll ds→AC P F avs Heap.empty (fun r _=>r=.bool true)) :
  Calls P F args W fun e W'=>e=.returned (.bool true)∧Below W.heap.size W W'∧DataW.TrodAll enc P W' 0 (fun b=>decide (b < W.heap.size)) true ts args.toList ds p:=by
 obtain ⟨avs,h1,h2,h3,h4,h5⟩:=argsReadR hlaid hS ts args.toList ds p us gs hA hpl hsz (fun j t v ht hv=>hval j t v ht (by simpa using hv))
 have hc:=hac avs (h1.trans h2) h4 h5
 refine (hc (fun b=>b < W.heap.size) W args ⟨fun b hb=>hb,(fun b o hb=>by cases hb),(fun b o hb=>by cases hb),htab⟩ (by simpa using h1) (fun i a v ha hv=>h3 i a v ha (by simpa using hv))).mono ?_
 rintro e W' ⟨v,r,h',Z',rfl,rfl,hrel,_,ex⟩
 refine ⟨by rw [hrel.sc_inv],ex.below,argsBack hlaid ex.below ts _ _ _ hts hA⟩
end Go.Proofs.YthnkbagmaljjjaaGreatDoor.VM
