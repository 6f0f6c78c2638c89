/- Words and rules that the proof uses. -/
import Derived.Test.YtglgdaeimfdpfaaVtMap
import Derived.Test.YtglgdaeimfdpfaaVtTyped
namespace Go.Proofs.Ytglgdaeimfdpfaa.VM
open Go Go.RowKit
theorem Y.{u} {α:Sort u} {a:α}:a=a:=rfl
theorem nl {l:List AV} {n:Nat} (h:l.length=n+1):l≠[]:=by rintro rfl; cases h
theorem np {n:Nat}:0 < Nat.succ n:=Nat.succ_pos n
theorem lb {n m:Nat} (h:Nat.ble n m=true):n≤m:=Nat.le_of_ble_eq_true h
theorem se {α:Type} {a b:α} (h:some a=some b):a=b:=some_elim h
theorem nz {n:Nat}:Nat.succ n≠0:=Nat.succ_ne_zero n
theorem dT {p:Prop} [Decidable p] (h:p):decide p=true:=decide_eq_true h
theorem dF {p:Prop} [Decidable p] (h:¬ p):decide p=false:=decide_eq_false h
abbrev TV.p (x:AV):TV:=.c (.p x)
abbrev TV.i (x:Int):TV:=.c (.p (AV.int x))
abbrev TV.b (x:Bool):TV:=.c (.p (.bool x))
abbrev TV.g (x:List AV):TV:=.c (.p (.agg x))
abbrev TV.q (b o:Nat):TV:=.c (.ptr b o)
def lkO:List (Nat×TV)→Nat→Option TV
 | [],_=>none
 | (k,v)::l,u=>match Nat.beq u k with | true=>some v | false=>lkO l u
theorem look_of_lkO:∀ {l:List (Nat×TV)} {u:Nat} {v:TV},lkO l u=some v→look TV.any l u=v
 | [],_,_,h=>by cases h
 | (k,x)::l,u,v,h=>by
  unfold lkO at h
  unfold look
  cases hb:Nat.beq u k with
  | true=>rw [hb] at h; exact Option.some.inj h
  | false=>rw [hb] at h; exact look_of_lkO h
def gT (s:TS):List Nat→List (Option TV)
 | []=>[]
 | k::l=>lkO s.l k::gT s l
def vT:List TV→List (Option TV)
 | []=>[]
 | v::l=>some v::vT l
def gH (s:TS):List Nat→List (Option Blk)
 | []=>[]
 | k::l=>s.h.get k::gH s l
def vH:List Blk→List (Option Blk)
 | []=>[]
 | v::l=>some v::vH l
def kz {α:Type}:List Nat→List α→List (Nat×α)
 | k::l,v::m=>(k,v)::kz l m
 | _,_=>[]
theorem fitsT {s:TS}:∀ {ks:List Nat} {vs:List TV},gT s ks=vT vs→TFits s (kz ks vs)
 | [],[],_=>trivial
 | [],_::_,h=>by cases h
 | _::_,[],h=>by cases h
 | k::l,v::m,h=>by
  have h1:s.t k=v:=look_of_lkO (List.cons.inj h).1
  exact ⟨by rw [h1]; exact .same _,fitsT (List.cons.inj h).2⟩
theorem fitsH {s:TS}:∀ {ks:List Nat} {vs:List Blk},gH s ks=vH vs→HFits s (kz ks vs)
 | [],[],_=>trivial
 | [],_::_,h=>by cases h
 | _::_,[],h=>by cases h
 | _::_,_::_,h=>⟨(List.cons.inj h).1,fitsH (List.cons.inj h).2⟩
section
variable {P:Program} {c:Code} {Q:Go.Exit→TS→Prop} {s:TS}
theorem as2 (ks:List Nat) (vs:List TV) (hs:List Nat) (ws:List Blk) (h:(gT s ks,gH s hs)=(vT vs,vH ws)) (k:AW2 P c Q ⟨kz ks vs,kz hs ws,s.sz⟩):AW2 P c Q s:=AW2_st _ _ rfl (fitsT (Prod.mk.inj h).1) (fitsH (Prod.mk.inj h).2) k
theorem rs {ops:Array Oper} {l:List Nat} {K:TS→Prop} (ks:List Nat) (vs:List TV) (hs:List Nat) (ws:List Blk) (h:(gT s ks,gH s hs)=(vT vs,vH ws)) (k:RunW P ops l K ⟨kz ks vs,kz hs ws,s.sz⟩):RunW P ops l K s:=RunW_st _ _ rfl (fitsT (Prod.mk.inj h).1) (fitsH (Prod.mk.inj h).2) k
theorem rz {ops:Array Oper} {K:TS→Prop} (ks:List Nat) (vs:List TV) (hs:List Nat) (ws:List Blk) (h:(gT s ks,gH s hs)=(vT vs,vH ws)) (k:K ⟨kz ks vs,kz hs ws,s.sz⟩):RunW P ops [] K s:=rs ks vs hs ws h (RunW_nil k)
def getsT (s:TS):List (Nat×TV)→List (Option TV)
 | []=>[]
 | (k,_)::l=>lkO s.l k::getsT s l
def valsT:List (Nat×TV)→List (Option TV)
 | []=>[]
 | (_,v)::l=>some v::valsT l
def getsH (s:TS):Hp→List (Option Blk)
 | []=>[]
 | (k,_)::l=>s.h.get k::getsH s l
def valsH:Hp→List (Option Blk)
 | []=>[]
 | (_,v)::l=>some v::valsH l
theorem fitsT2 {s:TS}:∀ {L:List (Nat×TV)},getsT s L=valsT L→TFits s L
 | [],_=>trivial
 | (k,v)::l,h=>by
  have h1:s.t k=v:=look_of_lkO (List.cons.inj h).1
  exact ⟨by rw [h1]; exact .same _,fitsT2 (List.cons.inj h).2⟩
theorem fitsH2 {s:TS}:∀ {H:Hp},getsH s H=valsH H→HFits s H
 | [],_=>trivial
 | (_,_)::_,h=>⟨(List.cons.inj h).1,fitsH2 (List.cons.inj h).2⟩
theorem rend {ops:Array Oper} {K:TS→Prop} {L:List (Nat×TV)} {H:Hp} (k:K ⟨L,H,s.sz⟩) (h:(getsT s L,getsH s H)=(valsT L,valsH H)):RunW P ops [] K s:=RunW_st L H rfl (fitsT2 (Prod.mk.inj h).1) (fitsH2 (Prod.mk.inj h).2) (RunW_nil k)
theorem rq {ops:Array Oper} {K:TS→Prop} {i:Nat} {l:List Nat} {o:Oper} {s':TS} (ho:(ops[i]?,o.guard)=(some o,none)) (h:OpD P o s s') (hk:RunW P ops l K s'):RunW P ops (i::l) K s:=r_op (Prod.mk.inj ho).1 (Prod.mk.inj ho).2 h hk
theorem rp {ops:Array Oper} {K:TS→Prop} {i:Nat} {l:List Nat} {o:Oper} {v:TV} (ho:(ops[i]?,o.guard)=(some o,none)) (h:PureD P o s v) (hk:RunW P ops l K (s.put o.dst v)):RunW P ops (i::l) K s:=rq ho (PureD.opD h) hk
theorem ra {ops:Array Oper} {K:TS→Prop} {i:Nat} {l:List Nat} {x:Operand} {dst:Option Nat} {ty:TypeId} {pos:String} {after:Array Edge} {v:TV} (h:(ops[i]?,dOk2 s dst,tev s x)=(some ⟨dst,.assign x,ty,pos,after,none⟩,true,v)) (hk:RunW P ops l K (s.put dst v)):RunW P ops (i::l) K s:=by
 obtain ⟨ho,h2⟩:=Prod.mk.inj h
 obtain ⟨hd,hx⟩:=Prod.mk.inj h2
 exact r_op ho rfl (PureD.opD (p_asg hd hx)) hk
theorem rm {ops:Array Oper} {K:TS→Prop} {i:Nat} {l:List Nat} {x:Operand} {dst:Option Nat} {ty:TypeId} {pos:String} {after:Array Edge} {v:TV} (h:(ops[i]?,dOk2 s dst,tev s x)=(some ⟨dst,.move x,ty,pos,after,none⟩,true,v)) (hk:RunW P ops l K (s.put dst v)):RunW P ops (i::l) K s:=by
 obtain ⟨ho,h2⟩:=Prod.mk.inj h
 obtain ⟨hd,hx⟩:=Prod.mk.inj h2
 exact r_op ho rfl (PureD.opD (p_move hd hx)) hk
theorem rf {ops:Array Oper} {K:TS→Prop} {i:Nat} {l:List Nat} {t:TypeId} {p:Operand} {f:Nat} {dst:Option Nat} {ty:TypeId} {pos:String} {after:Array Edge} {b off z by' n:Nat} {o:List AV} {fs:Array Field} {fd:Field} {zv:Value} (ho:ops[i]?=some ⟨dst,.fieldAddr t p f,ty,pos,after,none⟩) (ht:P.underlying t=some (.struct fs)) (hf:fs[f]?=some fd) (hI:Info P fd.type (z+1) by' zv) (hp:(dOk2 s dst,isConst p,tev s p)=(true,false,.c (.ptr b off))) (hb:s.h.get b=some (.pure o)) (hl:o.length=n+1) (hk:RunW P ops l K (s.put dst (.c (.ptr b (off+fd.offset))))):RunW P ops (i::l) K s:=by
 obtain ⟨h1,h2⟩:=Prod.mk.inj hp
 obtain ⟨h3,h4⟩:=Prod.mk.inj h2
 exact r_op ho rfl (PureD.opD (u_fa h1 h3 ht hf hI (Nat.succ_ne_zero _) h4 hb (nl hl))) hk
theorem if2 {x y:Code} {co:Operand} {p:Prop} [Decidable p] {α:Type} {a b r:α} (H:(if p then a else b)=r) (hc:tev s co=.c (.p (.sc (.bool (decide p))))) (h1:p→a=r→AW2 P x Q s) (h2:¬ p→b=r→AW2 P y Q s):AW2 P (.cond co x y) Q s:=AW2_if hc (fun h=>h1 h (ite_then h H)) (fun h=>h2 h (ite_else h H))
theorem rn {ops:Array Oper} {K:TS→Prop} {l:List Nat} {i j d:Nat} {o:Oper} {want g:Bool} {v:TV} (ho:(ops[i]?,o.guard,(ops[j]?).bind (·.dst),s.t d)=(some o,some (j,want),some d,.c (.p (.sc (.bool g))))) (hgw:g=want) (hd:dOk2 s (some d)=true) (h:PureD P { o with guard:=none } s v) (hk:RunW P ops l K (s.put o.dst v)):RunW P ops (i::l) K s:=by
 obtain ⟨h1,h2⟩:=Prod.mk.inj ho
 obtain ⟨h3,h4⟩:=Prod.mk.inj h2
 obtain ⟨h5,h6⟩:=Prod.mk.inj h4
 exact r_on h1 h3 h5 h6 hgw hd (PureD.opD h) hk
theorem rO {ops:Array Oper} {K:TS→Prop} {l:List Nat} {i j d:Nat} {o:Oper} {want g:Bool} (ho:(ops[i]?,o.guard,(ops[j]?).bind (·.dst),s.t d)=(some o,some (j,want),some d,.c (.p (.sc (.bool g))))) (hgw:g = !want) (hd:(dOk2 s (some d),dOk2 s o.dst)=(true,true)) (hk:RunW P ops l K (s.put o.dst (.c (.p (.tup []))))):RunW P ops (i::l) K s:=by
 obtain ⟨h1,h2⟩:=Prod.mk.inj ho
 obtain ⟨h3,h4⟩:=Prod.mk.inj h2
 obtain ⟨h5,h6⟩:=Prod.mk.inj h4
 obtain ⟨h7,h8⟩:=Prod.mk.inj hd
 exact r_off h1 h3 h5 h6 hgw h7 h8 hk
theorem em2 {p:Prop} [Decidable p] {α:Type} {a b r:α} {g:Prop} (H:(if p then a else b)=r) (h1:p→a=r→g) (h2:¬ p→b=r→g):g:=(Classical.em p).elim (fun h=>h1 h (ite_then h H)) (fun h=>h2 h (ite_else h H))
theorem u_sw {t:TypeId} {p x:Operand} {dst:Option Nat} {ty:TypeId} {pos:String} {after:Array Edge} {b n by':Nat} {o xs:List AV} {zv:Value} (h:(isConst p,dOk2 s dst,tev s p,pcells (tev s x))=(false,true,.c (.ptr b 0),some xs)) (hb:s.h.get b=some (.pure o)) (hI:Info P t (n+1) by' zv) (hl:xs.length=n+1) (h0:o.length=n+1):OpD P ⟨dst,.store t p x,ty,pos,after,none⟩ s ((s.wr b (.pure xs)).put dst (.c (.p (.tup [])))):=by
 obtain ⟨h1,h2⟩:=Prod.mk.inj h
 obtain ⟨h3,h4⟩:=Prod.mk.inj h2
 obtain ⟨h5,h6⟩:=Prod.mk.inj h4
 exact u_st h1 h3 h5 hb h6 hI hl (nl h0) (Upd.refl (hl.trans h0.symm))
theorem rt {t:Nat}:ResOk P s (.tmp t) (s.t t):=res_tmp (.same _)
theorem rcw {t z by':Nat} {ty:TypeId} {d:TypeDesc} {cs:List AV} {zv:Value} (ht:P.underlying ty=some d) (hag:isAggD d=true) (hI:Info P ty (z+1) by' zv) (hp:place s (s.t t)=some (cs,0)) (hl:cs.length=z+1):ResOk P s (.cell t ty) (.c (.p (.agg cs))):=res_cella ht hag hI.sz hp (Sub.le (Sub.refl _) hl) (Nat.succ_pos _) (Sub.take (Sub.refl _) hl)
abbrev QS:=@AW2_seq
abbrev QK:=@AW2_skip
abbrev QR:=@AW2_ret
abbrev QB:=@AW2_block
theorem sg {id:Nat} {ops:Array Oper} {y:Code} (n:Nat) (hn:ops.size=n) (h:RunW P ops (List.range n) (thenQ2 (AW2 P y Q) Q .normal) s):AW2 P (.seq (.region id ops false) y) Q s:=AW2_seq (AW2_reg _ (by rw [hn]) h)
theorem ar {id:Nat} {ops:Array Oper} (n:Nat) (hn:ops.size=n) (h:RunW P ops (List.range n) (Q .normal) s):AW2 P (.region id ops false) Q s:=AW2_reg _ (by rw [hn]) h
section
variable {dst:Option Nat} {ty:TypeId} {pos:String} {after:Array Edge}
theorem uf {t:TypeId} {p:Operand} {f:Nat} {b off z by' n:Nat} {o:List AV} {fs:Array Field} {fd:Field} {zv:Value} (ht:P.underlying t=some (.struct fs)) (h:(dOk2 s dst,isConst p,fs[f]?,tev s p)=(true,false,some fd,.c (.ptr b off))) (hI:Info P fd.type (z+1) by' zv) (hb:s.h.get b=some (.pure o)) (hl:o.length=n+1):PureD P ⟨dst,.fieldAddr t p f,ty,pos,after,none⟩ s (.c (.ptr b (off+fd.offset))):=by
 obtain ⟨h1,h2⟩:=Prod.mk.inj h
 obtain ⟨h3,h4⟩:=Prod.mk.inj h2
 obtain ⟨h5,h6⟩:=Prod.mk.inj h4
 exact u_fa h1 h3 ht h5 hI (Nat.succ_ne_zero _) h6 hb (nl hl)
theorem pl {t:TypeId} {p:Operand} {cs:List AV} {off:Nat} {c:AV} {d:TypeDesc} (ht:P.underlying t=some d) (h:(dOk2 s dst,isConst p,isAggD d,place s (tev s p))=(true,false,false,some (cs,off))) (S:Sub cs off [c]):PureD P ⟨dst,.load t p,ty,pos,after,none⟩ s (.c (.p c)):=by
 obtain ⟨h1,h2⟩:=Prod.mk.inj h
 obtain ⟨h3,h4⟩:=Prod.mk.inj h2
 obtain ⟨h5,h6⟩:=Prod.mk.inj h4
 exact u_ld h1 h3 ht h5 h6 S
theorem pe {x:Operand} {i:Nat} {cs:List AV} {c:AV} (h:(dOk2 s dst,tev s x,isConst x,cs[i]?)=(true,.c (.p (.tup cs)),false,some c)):PureD P ⟨dst,.extract x i,ty,pos,after,none⟩ s (.c (.p c)):=by
 obtain ⟨h1,h2⟩:=Prod.mk.inj h
 obtain ⟨h3,h4⟩:=Prod.mk.inj h2
 obtain ⟨h5,h6⟩:=Prod.mk.inj h4
 exact p_ext h1 h3 h5 h6
theorem pi {t yt:TypeId} {x y:Operand} {k:IntKind} {a b:Int} (h:(dOk2 s dst,tev s x,tev s y)=(true,.c (.p (.sc (.int k a))),.c (.p (.sc (.int k b))))):PureD P ⟨dst,.binOp .eql t x y yt,ty,pos,after,none⟩ s (.c (.p (.bool (decide (a=b))))):=by
 obtain ⟨h1,h2⟩:=Prod.mk.inj h
 obtain ⟨h3,h4⟩:=Prod.mk.inj h2
 exact p_ieq h1 h3 h4
theorem pn {t yt:TypeId} {x y:Operand} {k:IntKind} {a b:Int} (h:(dOk2 s dst,tev s x,tev s y)=(true,.c (.p (.sc (.int k a))),.c (.p (.sc (.int k b))))):PureD P ⟨dst,.binOp .neq t x y yt,ty,pos,after,none⟩ s (.c (.p (.bool (decide (a≠b))))):=by
 obtain ⟨h1,h2⟩:=Prod.mk.inj h
 obtain ⟨h3,h4⟩:=Prod.mk.inj h2
 exact p_ine h1 h3 h4
theorem pb {op:BinOp} {t yt:TypeId} {x y:Operand} {k:IntKind} {a b:Int} {v:Value} (h:(dOk2 s dst,tev s x,tev s y)=(true,.c (.p (.sc (.int k a))),.c (.p (.sc (.int k b))))) (hv:ibin op k a b=some v):PureD P ⟨dst,.binOp op t x y yt,ty,pos,after,none⟩ s (.c (.p (.sc v))):=by
 obtain ⟨h1,h2⟩:=Prod.mk.inj h
 obtain ⟨h3,h4⟩:=Prod.mk.inj h2
 exact p_bin h1 h3 h4 hv
theorem pL {t:TypeId} {p:Operand} {cs sub:List AV} {off z by':Nat} {d:TypeDesc} {zv:Value} (ht:P.underlying t=some d) (h:(dOk2 s dst,isConst p,isAggD d,place s (tev s p))=(true,false,true,some (cs,off))) (hI:Info P t (z+1) by' zv) (S:Sub cs off sub) (hl:sub.length=z+1):PureD P ⟨dst,.load t p,ty,pos,after,none⟩ s (.c (.p (.agg sub))):=by
 obtain ⟨h1,h2⟩:=Prod.mk.inj h
 obtain ⟨h3,h4⟩:=Prod.mk.inj h2
 obtain ⟨h5,h6⟩:=Prod.mk.inj h4
 exact u_lda h1 h3 ht h5 hI h6 (Nat.succ_pos _) S hl
theorem al {e d z by':Nat} {zv:Value} {cs:List AV} (b:Nat) (hI:Info P e z by' zv) (h1:zv.cells.all (·.oneCell')=true) (hcs:zv.cells.toList.map zcell=cs) (h:(dOk2 s (some d),Nat.blt b 2000,lno b (ldel s.l d),hno b (s.h.del b))=(true,true,true,true)):OpD P ⟨some d,.alloc e,ty,pos,after,none⟩ s ((TS.wr s b (.pure cs)).put (some d) (.c (.ptr b 0))):=by
 obtain ⟨h2,h3⟩:=Prod.mk.inj h
 obtain ⟨h4,h5⟩:=Prod.mk.inj h3
 obtain ⟨h6,h7⟩:=Prod.mk.inj h5
 exact MakeD.opD (u_alloc b h2 hI h1 hcs) h4 rfl h6 h7
theorem bx {e:TypeId} {x:Operand} {d:Nat} {cs:List AV} (b:Nat) (h:(dOk2 s (some d),pcells (tev s x),Nat.blt b 2000,lno b (ldel s.l d),hno b (s.h.del b))=(true,some cs,true,true,true)):OpD P ⟨some d,.box e x,ty,pos,after,none⟩ s ((TS.wr s b (.pure cs)).put (some d) (.c (.ptr b 0))):=by
 obtain ⟨h2,h3⟩:=Prod.mk.inj h
 obtain ⟨h4,h5⟩:=Prod.mk.inj h3
 obtain ⟨h6,h7⟩:=Prod.mk.inj h5
 obtain ⟨h8,h9⟩:=Prod.mk.inj h7
 exact MakeD.opD (n_box b h2 h4) h6 rfl h8 h9
theorem argsAre_of {xs:List Operand}:∀ {args:List AV},xs.map (tev s)=args.map (fun a=>TV.c (.p a))→ArgsAre s xs args:=by
 induction xs with
 | nil =>
  intro args h
  cases args with
  | nil=>trivial
  | cons a l=>cases h
 | cons x xs ih =>
  intro args h
  cases args with
  | nil=>cases h
  | cons a l=>exact ⟨(List.cons.inj h).1,ih (List.cons.inj h).2⟩
theorem pc {f : FuncId} {fn : Func} {x : Operand} {xs : Array Operand} {ts : Array TypeId} {args : List AV} {r : AV} (h : (dOk2 s dst, tev s x, isConst x) = (true, .clo f [], false)) (hfn : P.funcs[f]? = some fn) (hb : (fn.body.isSome, fn.name == "runtime.NumGoroutine") = (true, false)) (hc : ACp P f args r) (ha : xs.toList.map (tev s) = args.map (fun a => TV.c (.p a))) : PureD P ⟨dst, .call { callee := .value x, args := xs, argTypes := ts }, ty, pos, after, none⟩ s (.c (.p r)) := by
 obtain ⟨h1,h2⟩:=Prod.mk.inj h
 obtain ⟨h3,h4⟩:=Prod.mk.inj h2
 obtain ⟨h5,h6⟩:=Prod.mk.inj hb
 exact p_callp h1 h3 h4 hfn h5 h6 hc (argsAre_of ha)
end
end
end Go.Proofs.Ytglgdaeimfdpfaa.VM
