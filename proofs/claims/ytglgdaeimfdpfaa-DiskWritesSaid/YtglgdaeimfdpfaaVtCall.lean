/- Words and rules that the proof uses. -/
import Derived.Test.YtglgdaeimfdpfaaVtOps
namespace Go.Proofs.Ytglgdaeimfdpfaa.VM
open Go Go.RowKit
theorem HM.drop {m:Nm} {h:Hp} {h1:Heap} {b r:Nat} {k:Blk} (hm:HM m h h1) (hb:h.get b=some k) (hr:m b=some r) (h1':Heap) (hsame:∀ q,q≠r→h1' q=h1 q):HM m (h.del b) h1':=by
 refine ⟨fun c q hq=>?_,fun c c' q hc hc' e1 e2=>?_⟩
 ·rw [Hp.get_del] at hq
  by_cases hcb:c=b
  ·rw [if_pos hcb] at hq; cases hq
  ·rw [if_neg hcb] at hq
   rcases hm.blk c q hq with ⟨r',h2,h3⟩ | h2
   ·left
    refine ⟨r',h2,?_⟩
    rw [hsame r' (by rintro rfl; exact hcb (hm.inj c b r' (by rw [hq]; simp) (by rw [hb]; simp) h2 hr))]
    exact h3
   ·exact .inr h2
 ·rw [Hp.get_del] at hc hc'
  by_cases hcb:c=b
  ·rw [if_pos hcb] at hc; exact absurd rfl hc
  ·rw [if_neg hcb] at hc
   by_cases hcb':c'=b
   ·rw [if_pos hcb'] at hc'; exact absurd rfl hc'
   ·rw [if_neg hcb'] at hc'
    exact hm.inj c c' q hc hc' e1 e2
def AC2 (P:Program) (f:FuncId) (args:List TV) (h:Hp) (r:TV) (h':Hp):Prop :=
 ∀ m h1,HM m h h1→(∀ q o,h1 q=some o→∃ b k,h.get b=some k∧m b=some q)→AC P f (args.map (TV.rn m)) h1 (fun v h1'=>∃ m',Pin m m'∧HM m' h' h1'∧v=r.rn m')
def ACp (P:Program) (f:FuncId) (args:List AV) (r:AV):Prop:=AC P f args Heap.empty (fun v _=>v=r)
theorem AC.les {P:Program} {f:FuncId} {args:List AV} {h:Heap} {R R':AV→Heap→Prop} (c:AC P f args h R) (hr:∀ r h',R r h'→∃ r',Les r r'∧R' r' h'):AC P f args h R' :=
 fun Z w vs g hl hv=>(c Z w vs g hl hv).mono fun _ _ ⟨v,r,h',Z',he,q,x,y⟩=>by
  obtain ⟨r',hle,hr'⟩:=hr r h' q
  exact ⟨v,r',h',Z',he,hr',hle _ _ _ x,y⟩
theorem AC.arg {P:Program} {f:FuncId} {args args':List AV} {h:Heap} {R:AV→Heap→Prop} (c:AC P f args' h R) (hlen:args.length=args'.length) (hl:∀ (i:Nat) (a a':AV),args[i]?=some a→args'[i]?=some a'→Les a a'):AC P f args h R :=
 fun Z w vs g hvl hv=>c Z w vs g (by rw [← hlen]; exact hvl) fun i a' v ha' hvi=>by
  have hlt:i < args.length:=by rw [hlen]; exact (List.getElem?_eq_some_iff.1 ha').1
  exact hl i _ a' (List.getElem?_eq_getElem hlt) ha' _ _ _ (hv i _ v (List.getElem?_eq_getElem hlt) hvi)
def resRun (P:Program) (a:Act):ResultVar→Sem Value
 | .tmp t=>pure (a.tmps.getD t undef)
 | .cell c t=>do loadVar t (← asAddr (a.tmps.getD c undef))
def ResOk (P:Program) (s:TS) (rv:ResultVar) (v:TV):Prop :=
 ∀ m h1 n,HM m s.h h1→∀ Z a w,SR Z (can m s h1 n) a w→∃ u,(resRun P a rv).run P w=.ok u w∧Rel Z w (v.rn m) u
def ResAll (P:Program) (s:TS):List ResultVar→List TV→Prop
 | [],[]=>True
 | r::rs,v::vs=>ResOk P s r v∧ResAll P s rs vs
 | _,_=>False
section res
variable {P:Program} {s:TS}
theorem res_tmp {t:Nat} {v:TV} (h:TLes (s.t t) v):ResOk P s (.tmp t) v :=
 fun m h1 n hm Z a w r=>⟨a.tmps.getD t undef,rfl,h m _ _ _ (r.tm t)⟩
theorem res_cella {t z:Nat} {ty:TypeId} {d:TypeDesc} {cs sub:List AV} {off:Nat} (ht:P.underlying ty=some d) (hag:isAggD d=true) (hz:(P.info? ty).map (·.size)=some z) (hp:place s (s.t t)=some (cs,off)) (hb:off+z≤cs.length) (h0:0 < z) (hs:(cs.drop off).take z=sub):ResOk P s (.cell t ty) (.c (.p (.agg sub))):=by
 subst hs
 intro m h1 n hm Z a w r
 have hp2:=place_atp (n:=n) (p:=.tmp t) hm rfl hp (by rintro rfl; simp at hb; omega)
 obtain ⟨b,base,hv,hcs⟩:=atp_rel r.gd hp2 (aev_rel r (.tmp t))
 obtain ⟨us,hul,hrun,_,hrel⟩:=run_cells (P:=P) hb hcs
 refine ⟨.agg us.toArray,?_,.agg _ _ (by simp [hul]; omega) (fun v hv'=>?_) (fun i c u hc' hu=>(hrel i c u hc' (by simpa using hu)).1)⟩
 ·have hv2:a.tmps.getD t undef=.pointer (some ⟨b,base+off,none⟩):=hv
  simp only [resRun,hv2,loadVar]
  simp [isAgg_run ht,hag,info_run hz,hrun,asAddr]
 ·obtain ⟨i,hi,he⟩:=Array.getElem_of_mem hv'
  have hi':i < us.length:=by simpa using hi
  have hlt:i < ((cs.drop off).take z).length:=by simp; omega
  exact (hrel i _ v (List.getElem?_eq_getElem hlt) (by rw [List.getElem?_eq_getElem hi',← he]; simp)).2
def TV.one:TV→T1
 | .c x=>x
 | _=>.p .any
def retV:List TV→TV
 | [v]=>v
 | vs=>.tup (vs.map TV.one)
theorem res_run {rs:List ResultVar} {vs:List TV} (h:ResAll P s rs vs) {m:Nm} {h1:Heap} {n:Nat} (hm:HM m s.h h1) {Z:Nat→Prop} {a:Act} {w:World} (r:SR Z (can m s h1 n) a w) :
  ∃ us:List Value,(rs.mapM (resRun P a)).run P w=.ok us w∧us.length=vs.length∧∀ (i:Nat) (v:TV) (u:Value),vs[i]?=some v→us[i]?=some u→Rel Z w (v.rn m) u:=by
 induction rs generalizing vs with
 | nil =>
  cases vs with
  | nil=>exact ⟨[],rfl,rfl,fun i v u hv=>by simp at hv⟩
  | cons v vs=>exact h.elim
 | cons q rs ih =>
  cases vs with
  | nil=>exact h.elim
  | cons v vs =>
   obtain ⟨h2,h3⟩:=h
   obtain ⟨u,hu,hrel⟩:=h2 m h1 n hm Z a w r
   obtain ⟨us,hus,hlen,hall⟩:=ih h3
   refine ⟨u::us,?_,by simp [hlen],fun i v' u' hv' hu'=>?_⟩
   ·rw [List.mapM_cons]
    simp [hu,hus]
   ·cases i with
    | zero=>simp at hv' hu'; subst hv'; subst hu'; exact hrel
    | succ i=>exact hall i v' u' (by simpa using hv') (by simpa using hu')
theorem one_rel {Z:Nat→Prop} {w:World} {m:Nm} {v:TV} {u:Value} (h:Rel Z w (v.rn m) u):Rel Z w (v.one.rn m) u:=by
 cases v with
 | c x=>exact h
 | _=>exact .any _
theorem results_run {fn:Func} {rs:List ResultVar} {vs:List TV} (hrs:fn.results.toList=rs) (h:ResAll P s rs vs) {m:Nm} {h1:Heap} {n:Nat} (hm:HM m s.h h1) {Z:Nat→Prop} {a:Act} {w:World} (r:SR Z (can m s h1 n) a w) :
  ∃ v,(results fn a.tmps).run P w=.ok v w∧Rel Z w ((retV vs).rn m) v:=by
 obtain ⟨us,hus,hlen,hall⟩:=res_run h hm r
 have hres:fn.results=rs.toArray:=by rw [← hrs]
 have hm2:(fn.results.mapM (resRun P a)).run P w=.ok us.toArray w:=by
  rw [hres,List.mapM_toArray]
  simp [hus]
 have hr2:(results fn a.tmps).run P w=.ok (if h:us.toArray.size=1 then us.toArray[0] else .tuple us.toArray) w:=by
  change (fn.results.mapM (resRun P a) >>= fun vs=>pure (if h:vs.size=1 then vs[0] else .tuple vs)).run P w=_
  rw [Sem.run_bind,hm2]
  rfl
 refine ⟨_,hr2,?_⟩
 match vs,us,hlen,hall with
 | [v],[u],_,hall=>exact hall 0 v u rfl rfl
 | [],[],_,_=>exact .tup [] #[] rfl (fun i c u hc=>by simp at hc)
 | v1::v2::vs,us,hlen,hall =>
  have hne:¬ us.toArray.size=1:=by simp [hlen]
  rw [dif_neg hne]
  refine .tup _ _ (by simp [hlen]) (fun i c u hc hu=>?_)
  rw [List.getElem?_map,Option.map_eq_some_iff] at hc
  obtain ⟨x,hx,rfl⟩:=hc
  rw [List.getElem?_map,Option.map_eq_some_iff] at hx
  obtain ⟨v,hv,rfl⟩:=hx
  exact one_rel (hall i v u hv (by simpa using hu))
end res
def endQ2 (P:Program) (rs:List ResultVar) (vs:List TV) (h:Hp):Go.Exit→TS→Prop
 | .normal,s=>ResAll P s rs vs∧HFits s h
 | .ret,s=>ResAll P s rs vs∧HFits s h
 | _,_=>False
def argl:Nat→List TV→List (Nat×TV)
 | _,[]=>[]
 | k,v::vs=>(k,v)::argl (k+1) vs
theorem argl_look:∀ (vs:List TV) (k u:Nat),look TV.any (argl k vs) u=if k≤u then (vs[u - k]?).getD TV.any else TV.any
 | [],k,u=>by simp [argl,look]
 | v::vs,k,u=>by
  simp only [argl]
  rw [look_cons,argl_look vs (k+1) u]
  by_cases h:u=k
  ·subst h; simp
  ·rw [if_neg h]
   by_cases h2:k+1≤u
   ·rw [if_pos h2,if_pos (by omega)]
    obtain ⟨j,rfl⟩:∃ j,u=k+1+j:=⟨u - (k+1),by omega⟩
    rw [show k+1+j - (k+1)=j by omega,show k+1+j - k=j+1 by omega]
    simp
   ·rw [if_neg h2,if_neg (by omega)]
theorem HFits.hm {s:TS} {h:Hp} {m:Nm} {h1:Heap} (hf:HFits s h) (hm:HM m s.h h1):HM m h h1:=by
 refine ⟨fun b k hk=>hm.blk b k (hf.get b k hk),fun b b' r hb hb'=>hm.inj b b' r ?_ ?_⟩
 ·obtain ⟨k,hk⟩:=Option.ne_none_iff_exists'.1 hb
  rw [hf.get b k hk]; simp
 ·obtain ⟨k,hk⟩:=Option.ne_none_iff_exists'.1 hb'
  rw [hf.get b' k hk]; simp
theorem AC2_of_body {P:Program} {f:FuncId} {fn:Func} {c:Code} {args:List TV} {h h':Hp} {vs:List TV} {N:Nat} {rs:List ResultVar} (hf:P.funcs[f]?=some fn) (hb:fn.body=some c) (hN:fn.ntmps=N) (hle:args.length≤N) (hrs:fn.results.toList=rs)
  (hw:AW2 P c (endQ2 P rs vs h') ⟨argl 0 args,h,N⟩):AC2 P f args h (retV vs) h':=by
 intro m h1 hm hdom Z w xs g hl hv
 rw [List.length_map] at hl
 have hsr:SR Z (can m ⟨argl 0 args,h,N⟩ h1 w.heap.size) { tmps:=xs++Array.replicate (fn.ntmps - xs.size) undef,defers:=[] } w:=by
  refine ⟨fun t=>?_,by simp [can,hN]; omega,rfl,g,Nat.le_refl _,fun b o hbo=>g.lt hbo⟩
  show Rel Z w ((look TV.any (argl 0 args) t).rn m) _
  rw [argl_look,if_pos (Nat.zero_le _),Nat.sub_zero]
  by_cases ht:t < xs.size
  ·have h2:(xs++Array.replicate (fn.ntmps - xs.size) undef).getD t undef=xs[t]:=by
    rw [Array.getD_eq_getD_getElem?,Array.getElem?_append_left ht,Array.getElem?_eq_getElem ht]
    rfl
   have hlt:t < args.length:=by omega
   rw [h2,List.getElem?_eq_getElem hlt,Option.getD_some]
   exact hv t _ _ (by rw [List.getElem?_map,List.getElem?_eq_getElem hlt]; rfl) (Array.getElem?_eq_getElem ht)
  ·rw [List.getElem?_eq_none (by omega)]
   exact .any _
 refine calls_of_wp hf hb (wp_mono (hw m h1 w.heap.size hm Z _ w hsr) ?_)
 rintro e a' w' ⟨s1,Z',⟨s',m',q,pn,ft⟩,r',x'⟩
 have r2:SR Z' (can m' s' s1.h s1.n) a' w':=⟨fun u=>ft.tm u _ _ _ (r'.tm u),by rw [r'.ts,ft.sz]; rfl,r'.df,r'.gd,r'.hn,r'.hl⟩
 cases e with
 | normal =>
  obtain ⟨v,hrun,hrel⟩:=results_run hrs q.1 ft.hm r2
  exact ⟨r'.df,v,hrun,v,_,s1.h,Z',rfl,⟨m',pn,q.2.hm ft.hm,rfl⟩,hrel,r'.gd,x'⟩
 | ret =>
  obtain ⟨v,hrun,hrel⟩:=results_run hrs q.1 ft.hm r2
  exact ⟨r'.df,v,hrun,v,_,s1.h,Z',rfl,⟨m',pn,q.2.hm ft.hm,rfl⟩,hrel,r'.gd,x'⟩
 | exit id=>exact q.elim
 | goto l=>exact q.elim
 | panic ch=>exact q.elim
 | outgrown=>exact q.elim
theorem hm_nil (m:Nm):HM m [] Heap.empty:=⟨fun b k hb=>(by cases hb),fun b b' r hb=>(absurd rfl hb)⟩
def pureT:List AV→List TV:=fun l=>l.map fun x=>.c (.p x)
theorem ACp_of {P:Program} {f:FuncId} {args:List AV} {r:TV} {av:AV} (h:AC2 P f (pureT args) [] r []) (hr:∀ m,Les (r.rn m) av):ACp P f args av:=by
 have h2:=h (fun _=>none) Heap.empty (hm_nil _) (fun q o hq=>by cases hq)
 have:(pureT args).map (TV.rn fun _=>none)=args:=by
  simp only [pureT,List.map_map]
  rw [show (TV.rn (fun _=>none) ∘ fun x=>TV.c (.p x))=id from rfl]
  simp
 rw [this] at h2
 refine h2.les ?_
 rintro v h' ⟨m',_,_,rfl⟩
 exact ⟨av,hr m',rfl⟩
section calls
variable {P:Program} {s:TS} {dst:Option Tmp} {ty:TypeId} {pos:String} {after:Array Edge}
theorem keeps_merge {h1 hr:Heap} (hd:∀ b,hr b≠none→h1 b=none):Keeps h1 (h1.merge hr):=by
 intro r o ho
 unfold Heap.merge
 cases hq:hr r with
 | none=>exact ho
 | some o' =>
  have:=hd r (by rw [hq]; simp)
  rw [ho] at this
  cases this
theorem p_call {f : FuncId} {fn : Func} {x : Operand} {xs : Array Operand} {ts : Array TypeId} {caps args : List AV} {r : AV} (hd : dOk2 s dst = true) (hf : tev s x = .clo f (caps.map .p)) (hx0 : isConst x = false) (hfn : P.funcs[f]? = some fn) (hb : fn.body.isSome = true) (hname : (fn.name == "runtime.NumGoroutine") = false)
  (ha:∀ (i:Nat) (x:Operand),xs.toList[i]?=some x→∃ a,args[i]?=some a∧tev s x=.c (.p a)) (hal:args.length=xs.size) (hc:ACp P f (args++caps) r) :
  PureD P ⟨dst,.call { callee:=.value x,args:=xs,argTypes:=ts },ty,pos,after,none⟩ s (.c (.p r)):=by
 intro m h1 n hm
 have hcl:aev (can m s h1 n) x=.clo f caps:=by
  rw [aev_eq hx0,hf]
  simp only [TV.rn,List.map_map]
  rw [show (T1.rn m ∘ T1.p)=id from rfl]
  simp
 refine OpW_hl fun hlt=>OpW_call hcl hfn hb hname rfl ((AC.frame hc h1).arg (by simp [hal]) (fun i a a' h2 h3=>?_)) (dOk_can hd) ?_
 ·by_cases hi:i < xs.size
  ·rw [List.getElem?_append_left (by simpa using hi),List.getElem?_map] at h2
   rw [List.getElem?_append_left (by omega)] at h3
   have hx:xs.toList[i]?=some xs[i]:=by simp [hi]
   rw [hx] at h2
   simp only [Option.map_some,Option.some.injEq] at h2
   obtain ⟨a2,h4,h5⟩:=ha i _ hx
   rw [h3] at h4
   cases h4
   subst h2
   have:=aev_les (s:=s) (m:=m) (h1:=h1) (n:=n) xs[i]
   rw [h5] at this
   exact this
  ·rw [List.getElem?_append_right (by simp; omega)] at h2
   rw [List.getElem?_append_right (by omega)] at h3
   simp only [List.length_map,Array.length_toList] at h2
   rw [hal,h2] at h3
   cases h3
   exact .same _
 ·rintro v h' n' ⟨hr,rfl,rfl,hdis⟩ hn' hlt' _
  exact ⟨h1.merge hr,n',_,hlt',keeps_merge hdis,rfl,.same _⟩
end calls
end Go.Proofs.Ytglgdaeimfdpfaa.VM
