/- Words and rules that the proof uses. -/
import Derived.Test.YthnkbagmaljjjaaGreatDoorVtLib
namespace Go.Proofs.YthnkbagmaljjjaaGreatDoor.VM
open Go Go.RowKit
theorem Info.sz {P:Program} {e:TypeId} {z by':Nat} {zv:Value} (h:Info P e z by' zv):(P.info? e).map (·.size)=some z:=by
 obtain ⟨i,hi,hs,_,_⟩:=h.get
 rw [hi]; exact congrArg some hs
theorem Info.zr {P:Program} {e:TypeId} {z by':Nat} {zv:Value} (h:Info P e z by' zv):(P.info? e).map (·.zero)=some (some zv):=by
 obtain ⟨i,hi,_,_,hz⟩:=h.get
 rw [hi]; exact congrArg some hz
abbrev room (n k:Nat):Prop:=n * k≤140737488355328
theorem room_max {n k:Nat} (h:room n k) (hk:1≤k):n≤9223372036854775807:=by
 have:n * 1≤n * k:=Nat.mul_le_mul_left _ hk
 unfold room at h
 omega
abbrev cut {α:Type} (l:List α) (a b:Int):List α:=(l.drop a.toNat).take (b.toNat - a.toNat)
theorem cut_len {α:Type} {l:List α} {a b:Int} (h:0≤a∧a≤b∧b≤(l.length:Int)):(cut l a b).length=b.toNat - a.toNat:=by
 simp [cut]; omega
theorem ml {α:Type} (f:α→AV) (l:List α):(l.map f).length=l.length * 1:=by simp
theorem lrd_get {α:Type} [Inhabited α] {l:List α} {j:Nat} (h:j < l.length):l[j]?=some (lrd l j):=by simp [lrd,List.getD,h]
theorem lne {α:Type} {f:α→AV} {l:List α} {j:Nat} (h:j < l.length):l.map f≠[]:=by
 intro e
 rw [List.map_eq_nil_iff] at e
 rw [e] at h
 simp at h
theorem fne {α:Type} {f:α→List AV} {z:Nat} (hz:∀ x,(f x).length=z) (h0:0 < z) {l:List α} {j:Nat} (h:j < l.length):l.flatMap f≠[]:=by
 intro e
 have:=fm_length hz l
 rw [e] at this
 simp only [List.length_nil] at this
 have h2:0 < l.length * z:=Nat.mul_pos (by omega) h0
 omega
theorem mapp {α:Type} (f:α→AV) (a b:List α):a.map f++b.map f=(a++b).map f:=by simp
theorem fapp {α:Type} (f:α→List AV) (a b:List α):a.flatMap f++b.flatMap f=(a++b).flatMap f:=by simp
theorem lapp {α:Type} (a b:List α):a.length+b.length=(a++b).length:=by simp
theorem TLes.own {b n n' z:Nat} (h:n=n'):TLes (.c (.own b n z)) (.c (.own b n' z)):=by subst h; exact .same _
section ops
variable {P:Program} {s:TS} {dst:Option Tmp} {ty:TypeId} {pos:String} {after:Array Edge}
theorem u_ld {t:TypeId} {p:Operand} {cs:List AV} {off:Nat} {c:AV} {d:TypeDesc} (hd:dOk2 s dst=true) (hx0:isConst p=false) (ht:P.underlying t=some d) (hag:isAggD d=false) (hp:place s (tev s p)=some (cs,off)) (S:Sub cs off [c]):PureD P ⟨dst,.load t p,ty,pos,after,none⟩ s (.c (.p c)):=p_ld hd hx0 ht hag hp S.one
theorem u_lda {t:TypeId} {p:Operand} {cs sub:List AV} {off z by':Nat} {d:TypeDesc} {zv:Value} (hd:dOk2 s dst=true) (hx0:isConst p=false) (ht:P.underlying t=some d) (hag:isAggD d=true) (hI:Info P t z by' zv) (hp:place s (tev s p)=some (cs,off)) (h0:0 < z) (S:Sub cs off sub) (hl:sub.length=z):PureD P ⟨dst,.load t p,ty,pos,after,none⟩ s (.c (.p (.agg sub))) :=
 p_lda hd hx0 ht hag hI.sz hp (S.le hl) h0 (S.take hl)
theorem u_st {t:TypeId} {p x:Operand} {b off z by':Nat} {o xs o':List AV} {zv:Value} (hx0:isConst p=false) (hd:dOk2 s dst=true) (hp:tev s p=.c (.ptr b off)) (hb:s.h.get b=some (.pure o)) (hx:pcells (tev s x)=some xs) (hI:Info P t z by' zv) (hl:xs.length=z) (h0:o≠[]) (U:Upd o off xs o') :
  OpD P ⟨dst,.store t p x,ty,pos,after,none⟩ s ((s.wr b (.pure o')).put dst (.c (.p (.tup [])))):=d_st hx0 hd hp hb hx (by rw [hl]; exact hI.sz) U.1 h0 U.2
theorem u_fa {t:TypeId} {p:Operand} {f:Nat} {b off by':Nat} {o:List AV} {fs:Array Field} {fd:Field} {z:Nat} {zv:Value} (hd:dOk2 s dst=true) (hx0:isConst p=false) (ht:P.underlying t=some (.struct fs)) (hf:fs[f]?=some fd) (hI:Info P fd.type z by' zv) (hz0:z≠0) (hp:tev s p=.c (.ptr b off)) (hb:s.h.get b=some (.pure o)) (hne:o≠[]):PureD P ⟨dst,.fieldAddr t p f,ty,pos,after,none⟩ s (.c (.ptr b (off+fd.offset))) :=
 p_fa hd hx0 ht hf hI.sz hz0 hp hb (fun _=>hne)
theorem u_far {t:TypeId} {p:Operand} {f by':Nat} {cs:List AV} {off:Nat} {fs:Array Field} {fd:Field} {z:Nat} {zv:Value} (hd:dOk2 s dst=true) (hx0:isConst p=false) (ht:P.underlying t=some (.struct fs)) (hf:fs[f]?=some fd) (hI:Info P fd.type z by' zv) (hz0:z≠0) (hp:tev s p=.c (.p (.rptr cs off))):PureD P ⟨dst,.fieldAddr t p f,ty,pos,after,none⟩ s (.c (.p (.rptr cs (off+fd.offset)))) :=
 p_far hd hx0 ht hf hI.sz hz0 hp
theorem u_ixl {t e:TypeId} {x y:Operand} {cs:List AV} {n z by':Nat} {zv:Value} {k:IntKind} {i:Int} {j:Nat} (hd:dOk2 s dst=true) (hx0:isConst x=false) (ht:P.underlying t=some (.slice e)) (hI:Info P e z by' zv) (hx:tev s x=.c (.p (.lst cs n))) (hy:tev s y=.c (.p (.sc (.int k i)))) (hi:i=(j:Int)) (hj:j < n) (hne:cs≠[]):PureD P ⟨dst,.indexAddr t x y,ty,pos,after,none⟩ s (.c (.p (.rptr cs (j * z)))) :=
 p_ixl hd hx0 ht hI.sz hx hy hi hj hne
theorem u_ixo {t e:TypeId} {x y:Operand} {b n z by':Nat} {zv:Value} {cs:List AV} {k:IntKind} {i:Int} {j:Nat} (hd:dOk2 s dst=true) (hx0:isConst x=false) (ht:P.underlying t=some (.slice e)) (hI:Info P e z by' zv) (hx:tev s x=.c (.own b n z)) (hb:s.h.get b=some (.pure cs)) (hne:cs≠[]) (hy:tev s y=.c (.p (.sc (.int k i)))) (hi:i=(j:Int)) (hj:j < n):PureD P ⟨dst,.indexAddr t x y,ty,pos,after,none⟩ s (.c (.ptr b (0+j * z))) :=
 p_ixo hd hx0 ht hI.sz hx hb hne hy hi hj
theorem u_ixp {t e:TypeId} {x y:Operand} {b off n z by':Nat} {zv:Value} {o:List AV} {k:IntKind} {i:Int} {j:Nat} (hd:dOk2 s dst=true) (hx0:isConst x=false) (ht:P.underlying t=some (.array n e)) (hI:Info P e z by' zv) (hx:tev s x=.c (.ptr b off)) (hb:s.h.get b=some (.pure o)) (hne:o≠[]) (hy:tev s y=.c (.p (.sc (.int k i)))) (hi:i=(j:Int)) (hj:j < n):PureD P ⟨dst,.indexAddr t x y,ty,pos,after,none⟩ s (.c (.ptr b (off+j * z))) :=
 p_ixp hd hx0 ht hI.sz hx hb (fun _=>hne) hy hi hj
theorem u_alloc {e:TypeId} {z by':Nat} {zv:Value} {d:Nat} {cs:List AV} (b:Nat) (hd:dOk2 s (some d)=true) (hI:Info P e z by' zv) (h1:zv.cells.all (·.oneCell')=true) (hcs:zv.cells.toList.map zcell=cs) :
  MakeD P ⟨some d,.alloc e,ty,pos,after,none⟩ s (.c (.ptr b 0)) b cs:=n_alloc b hd hI.zr h1 hcs
theorem af_cons {place:Nat→Option (Nat×Nat)} {cells cells' xs cs:List AV} {i off z:Nat} {ps:List (Nat×List AV)} (hp:place i=some (off,z)) (hl:xs.length=z) (U:Upd cells off xs cells') (h:afill place cells' ps=some cs):afill place cells ((i,xs)::ps)=some cs:=by
 simp only [afill,hp]
 rw [if_pos ⟨hl,U.1⟩,U.2]
 exact h
theorem u_bld {t:TypeId} {parts:Array (Nat×Operand)} {z by':Nat} {zv:Value} {pl:List (Nat×Nat)} {ps:List (Nat×List AV)} {zs cs:List AV} (hd:dOk2 s dst=true) (hI:Info P t z by' zv) (h1:zv.cells.all (·.oneCell')=true) (hzs:zv.cells.toList.map zcell=zs)
  (hpl:placesOf P t=some pl) (hp:tparts s parts.toList=some ps) (hf:afill (fun i=>pl[i]?) zs ps=some cs):PureD P ⟨dst,.build t parts,ty,pos,after,none⟩ s (.c (.p (.agg cs))):=by
 subst hzs
 obtain ⟨i,hi,_,_,hz⟩:=hI.get
 exact p_bld hd hi hz h1 hpl hp hf
theorem u_bs {t e:TypeId} {len z d:Nat} {parts:Array (Nat×Operand)} {by':Nat} {zv:Value} {ps:List (Nat×List AV)} {zs cs:List AV} (b:Nat) (hd:dOk2 s (some d)=true) (hu:P.underlying t=some (.slice e)) (hI:Info P e z by' zv)
  (hzc:zv.cells.size=z) (h1:zv.cells.all (·.oneCell')=true) (hpos:len * z≠0) (hsmall:len * z≤16777216) (hzs:zv.cells.toList.map zcell=zs) (hp:tparts s parts.toList=some ps) (hf:afill (fun i=>some (i * z,z)) (azeros len zs) ps=some cs) :
  MakeD P ⟨some d,.buildSlice t len parts,ty,pos,after,none⟩ s (.c (.own b len z)) b cs:=by
 subst hzs
 exact n_bs b hd hu hI hzc h1 hpos hsmall hp hf
theorem srcT_o {y:Operand} {b n z:Nat} {cs:List AV} (h:tev s y=.c (.own b n z)) (hb:s.h.get b=some (.pure cs)) (hl:cs.length=n * z) (hz:0 < z):srcT s (tev s y)=some (cs,n):=by
 rw [h]
 simp only [srcT,hb]
 exact if_pos ⟨hl,hz⟩
theorem u_app {x y:Operand} {t tx e e':TypeId} {by':Nat} {zv:Value} {b n z k d n':Nat} {cs ys cs':List AV} (ds:List Nat) (hb2:Nat.blt b 2000=true) (hd:dOk2 s (some d)=true) (hx0:isConst x=false) (hy0:isConst y=false) (ht:P.underlying t=some (.slice e)) (htx:P.underlying tx=some (.slice e')) (hI:Info P e z by' zv) (hzc:zv.cells.size=z)
  (hx:tev s x=.c (.own b n z)) (hb:s.h.get b=some (.pure cs)) (hcl:cs.length=n * z) (hz0:0 < z) (hy:srcT s (tev s y)=some (ys,k)) (hyl:ys.length=k * z) (hroom:room (n+k) by') (hby:1≤by')
  (hl:lno b (ldel (ds.foldl ldel s.l) d)=true) (hh:hno b (s.h.del b)=true) (hcs:cs++ys=cs') (hn:n+k=n') :
  OpD P ⟨some d,.call { callee:=.builtin .append,args:=#[x,y],argTypes:=#[t,tx] },ty,pos,after,none⟩ s ((TS.mk (ds.foldl ldel s.l) (s.h.set b (.pure cs')) s.sz).put (some d) (.c (.own b n' z))):=by
 subst hn
 exact d_app ds hb2 hd hx0 hy0 ht htx hI hzc hx hb hcl hz0 hy hyl hroom (room_max hroom hby) hl hh hcs
theorem u_cutl {α:Type} {g:List α→List AV} {l:List α} {t e:TypeId} {x:Operand} {lo hi mx:Option Operand} {z by':Nat} {a b:Int} {zv:Value} (hd:dOk2 s dst=true) (hx0:isConst x=false) (ht:P.underlying t=some (.slice e)) (hI:Info P e z by' zv) (hx:tev s x=.c (.p (.lst (g l) l.length))) (hl:bndT s lo 0 a.toNat) (hh:bndT s hi l.length b.toNat) (hm:mx=none∨(bndT s mx l.length b.toNat∧hi.isSome=true)) (h1:0≤a∧a≤b∧b≤(l.length:Int)) (hg:∀ (l:List α) (i n:Nat),((g l).drop (i * z)).take (n * z)=g ((l.drop i).take n)):PureD P ⟨dst,.slice t x lo hi mx,ty,pos,after,none⟩ s (.c (.p (.lst (g (cut l a b)) (cut l a b).length))):=by
 have:=p_cutl (P:=P) (ty:=ty) (pos:=pos) (after:=after) hd hx0 ht hI.sz hx hl hh hm (by omega) (by omega) (hg l a.toNat (b.toNat - a.toNat))
 rw [cut_len h1]
 exact this
theorem fm_drop {α:Type} {f:α→List AV} {z:Nat} (hz:∀ x,(f x).length=z):∀ (l:List α) (i:Nat),(l.flatMap f).drop (i * z)=(l.drop i).flatMap f
 | l,0=>by simp
 | [],i+1=>by simp
 | x::l,i+1=>by
  simp only [List.flatMap_cons,List.drop_succ_cons]
  rw [List.drop_append,List.drop_eq_nil_of_le (by rw [hz,Nat.add_mul]; omega),List.nil_append,hz,show (i+1) * z - z=i * z by rw [Nat.add_mul]; omega]
  exact fm_drop hz l i
theorem fm_take {α:Type} {f:α→List AV} {z:Nat} (hz:∀ x,(f x).length=z):∀ (l:List α) (n:Nat),(l.flatMap f).take (n * z)=(l.take n).flatMap f
 | l,0=>by simp
 | [],n+1=>by simp
 | x::l,n+1=>by
  simp only [List.flatMap_cons,List.take_succ_cons]
  rw [List.take_append,List.take_of_length_le (by rw [hz,Nat.add_mul]; omega),hz,show (n+1) * z - z=n * z by rw [Nat.add_mul]; omega,fm_take hz l n]
theorem g_fm {α:Type} {f:α→List AV} {z:Nat} (hz:∀ x,(f x).length=z) (l:List α) (i n:Nat):((l.flatMap f).drop (i * z)).take (n * z)=((l.drop i).take n).flatMap f:=by rw [fm_drop hz,fm_take hz]
theorem bT_zero:bndT s none 0 ((0:Int).toNat):=rfl
theorem bT_i {x:Operand} {d:Nat} {k:IntKind} {i:Int} (h0:0≤i) (h:tev s x=.c (.p (.sc (.int k i)))):bndT s (some x) d i.toNat:=by
 have:i=(i.toNat:Int):=(Int.toNat_of_nonneg h0).symm
 exact ⟨k,by rw [h]; rw [← this]⟩
abbrev shl_u8 (x:UInt8) (n:Nat):UInt8:=⟨x.toBitVec <<< n⟩
theorem p_u8shl {t yt:TypeId} {x y:Operand} {k':IntKind} {a:UInt8} {b:Int} {n:Nat} (hd:dOk2 s dst=true) (hx:tev s x=.c (.p (.sc (.int .u8 a.toNat)))) (hy:tev s y=.c (.p (.sc (.int k' b)))) (hn:b=(n:Int)):PureD P ⟨dst,.binOp .shl t x y yt,ty,pos,after,none⟩ s (.c (.p (.sc (.int .u8 (shl_u8 a n).toNat)))):=by
 subst hn
 refine p_shift hd hx hy (.inl rfl) (by omega) ?_
 rw [if_pos rfl]
 show IntKind.u8.wrap _=((a.toBitVec <<< n).toNat:Int)
 rw [Int.toNat_natCast,BitVec.toNat_shiftLeft,Nat.shiftLeft_eq]
 show IntKind.u8.wrap ((a.toNat:Int) * 2 ^ min n 8)=((a.toNat * 2 ^ n % 2 ^ 8:Nat):Int)
 have h1:((a.toNat:Int) * 2 ^ min n 8)=((a.toNat * 2 ^ min n 8:Nat):Int):=by simp
 rw [h1]
 unfold IntKind.wrap
 simp only [IntKind.bits,IntKind.signed]
 have h2:a.toNat * 2 ^ min n 8 % 2 ^ 8=a.toNat * 2 ^ n % 2 ^ 8:=by
  rcases Nat.le_total n 8 with h | h
  ·rw [Nat.min_eq_left h]
  ·rw [Nat.min_eq_right h,Nat.mul_mod_left]
   obtain ⟨d,rfl⟩:∃ d,n=8+d:=⟨n - 8,by omega⟩
   rw [Nat.pow_add,Nat.mul_comm (2 ^ 8),← Nat.mul_assoc,Nat.mul_mod_left]
 rw [← h2]
 simp
theorem wrapof_u64 (a:Int):IntKind.u64.wrap a=((UInt64.ofInt a).toNat:Int):=by
 unfold IntKind.wrap
 simp only [IntKind.bits,IntKind.signed,Bool.false_and,Bool.false_eq_true,if_false]
 have h0:0≤a % 2 ^ 64:=Int.emod_nonneg _ (by decide)
 have h1:a % 2 ^ 64 < 2 ^ 64:=Int.emod_lt_of_pos _ (by decide)
 show a % 2 ^ 64=((UInt64.ofNat (a % 2 ^ 64).toNat).toNat:Int)
 rw [UInt64.toNat_ofNat',Nat.mod_eq_of_lt (by omega)]
 omega
theorem p_i_u64 {src dt:TypeId} {x:Operand} {k:IntKind} {d':TypeDesc} {a:Int} (hd:dOk2 s dst=true) (hs:P.underlying src=some d') (ht:P.underlying dt=some (.int .u64)) (hx:tev s x=.c (.p (.sc (.int k a)))):PureD P ⟨dst,.convert src dt x,ty,pos,after,none⟩ s (.c (.p (.sc (.int .u64 (UInt64.ofInt a).toNat)))):=p_ci hd hs ht hx (wrapof_u64 a)
theorem p_u64_i {src dt:TypeId} {x:Operand} {d':TypeDesc} {a:UInt64} (hd:dOk2 s dst=true) (hs:P.underlying src=some d') (ht:P.underlying dt=some (.int .i64)) (hx:tev s x=.c (.p (.sc (.int .u64 a.toNat)))):PureD P ⟨dst,.convert src dt x,ty,pos,after,none⟩ s (.c (.p (.int (w64 a.toNat)))):=p_ci hd hs ht hx rfl
abbrev shl_u64 (x:UInt64) (n:Nat):UInt64:=⟨x.toBitVec <<< n⟩
abbrev shr_u64 (x:UInt64) (n:Nat):UInt64:=⟨x.toBitVec >>> n⟩
theorem p_u64shl {t yt:TypeId} {x y:Operand} {k':IntKind} {a:UInt64} {b:Int} {n:Nat} (hd:dOk2 s dst=true) (hx:tev s x=.c (.p (.sc (.int .u64 a.toNat)))) (hy:tev s y=.c (.p (.sc (.int k' b)))) (hn:b=(n:Int)):PureD P ⟨dst,.binOp .shl t x y yt,ty,pos,after,none⟩ s (.c (.p (.sc (.int .u64 (shl_u64 a n).toNat)))):=by
 subst hn
 refine p_shift hd hx hy (.inl rfl) (by omega) ?_
 rw [if_pos rfl]
 show IntKind.u64.wrap _=((a.toBitVec <<< n).toNat:Int)
 rw [Int.toNat_natCast,BitVec.toNat_shiftLeft,Nat.shiftLeft_eq]
 show IntKind.u64.wrap ((a.toNat:Int) * 2 ^ min n 64)=((a.toNat * 2 ^ n % 2 ^ 64:Nat):Int)
 have h1:((a.toNat:Int) * 2 ^ min n 64)=((a.toNat * 2 ^ min n 64:Nat):Int):=by simp
 rw [h1]
 unfold IntKind.wrap
 simp only [IntKind.bits,IntKind.signed]
 have h2:a.toNat * 2 ^ min n 64 % 2 ^ 64=a.toNat * 2 ^ n % 2 ^ 64:=by
  rcases Nat.le_total n 64 with h | h
  ·rw [Nat.min_eq_left h]
  ·rw [Nat.min_eq_right h,Nat.mul_mod_left]
   obtain ⟨d,rfl⟩:∃ d,n=64+d:=⟨n - 64,by omega⟩
   rw [Nat.pow_add,Nat.mul_comm (2 ^ 64),← Nat.mul_assoc,Nat.mul_mod_left]
 rw [← h2]
 simp
theorem p_u64shr {t yt:TypeId} {x y:Operand} {k':IntKind} {a:UInt64} {b:Int} {n:Nat} (hd:dOk2 s dst=true) (hx:tev s x=.c (.p (.sc (.int .u64 a.toNat)))) (hy:tev s y=.c (.p (.sc (.int k' b)))) (hn:b=(n:Int)):PureD P ⟨dst,.binOp .shr t x y yt,ty,pos,after,none⟩ s (.c (.p (.sc (.int .u64 (shr_u64 a n).toNat)))):=by
 subst hn
 refine p_shift hd hx hy (.inr rfl) (by omega) ?_
 rw [if_neg (by decide)]
 show (a.toNat:Int).fdiv _=((a.toBitVec >>> n).toNat:Int)
 rw [Int.toNat_natCast,BitVec.toNat_ushiftRight,Nat.shiftRight_eq_div_pow]
 show (a.toNat:Int).fdiv (2 ^ min n 64)=((a.toNat / 2 ^ n:Nat):Int)
 rw [Int.fdiv_eq_ediv_of_nonneg _ (by have:(0:Int) < 2 ^ min n 64:=Int.pow_pos (by decide); omega)]
 have hlt:a.toNat < 2 ^ 64:=a.toNat_lt
 have h2:a.toNat / 2 ^ min n 64=a.toNat / 2 ^ n:=by
  rcases Nat.le_total n 64 with h | h
  ·rw [Nat.min_eq_left h]
  ·rw [Nat.min_eq_right h,Nat.div_eq_of_lt hlt,Nat.div_eq_of_lt (Nat.lt_of_lt_of_le hlt (Nat.pow_le_pow_right (by decide) h))]
 rw [← h2]
 simp
theorem p_u64cpl {t:TypeId} {x:Operand} {a:UInt64} (hd:dOk2 s dst=true) (hx:tev s x=.c (.p (.sc (.int .u64 a.toNat)))):PureD P ⟨dst,.unOp .xor t x,ty,pos,after,none⟩ s (.c (.p (.sc (.int .u64 (~~~ a).toNat)))):=by
 have h:=p_compl (P:=P) (ty:=ty) (pos:=pos) (after:=after) (t:=t) hd hx
 have e:Go.bits .xor .u64 (if IntKind.u64.signed then -1 else IntKind.u64.max) (a.toNat:Int)=((~~~ a).toNat:Int):=by
  show Go.bits .xor .u64 (((UInt64.ofNat (18446744073709551616 - 1)).toNat:Nat):Int) (a.toNat:Int)=_
  simp only [Go.bits]
  rw [bits_u64,bits_u64,wrap_u64]
  have e2:UInt64.ofNat ((UInt64.ofNat (18446744073709551616 - 1)).toBitVec ^^^ a.toBitVec).toNat = ~~~ a:=by
   rw [← UInt64.toBitVec_inj]
   simp
   rw [← BitVec.allOnes_xor (x:=a.toBitVec)]
   congr 1
  exact congrArg (fun q:UInt64=>(q.toNat:Int)) e2
 rw [e] at h
 exact h
theorem p_ishr {t yt:TypeId} {x y:Operand} {k':IntKind} {a b:Int} {n:Nat} (hd:dOk2 s dst=true) (hx:tev s x=.c (.p (.int a))) (hy:tev s y=.c (.p (.sc (.int k' b)))) (hn:b=(n:Int)):PureD P ⟨dst,.binOp .shr t x y yt,ty,pos,after,none⟩ s (.c (.p (.int (ishr a n)))):=by
 subst hn
 exact p_shift hd hx hy (.inr rfl) (by omega) (by rw [if_neg (by decide),Int.toNat_natCast]; rfl)
end ops
end Go.Proofs.YthnkbagmaljjjaaGreatDoor.VM
