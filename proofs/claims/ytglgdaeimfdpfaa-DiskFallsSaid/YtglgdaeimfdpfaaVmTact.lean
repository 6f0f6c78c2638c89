/- The abstract logic: an operation in a region, by short names. -/
import Derived.Test.YtglgdaeimfdpfaaVmStep
namespace Go.Proofs.Ytglgdaeimfdpfaa.VM
open Go Go.RowKit

/-- A type's size, bytes and zero. -/
def Info (P : Program) (e : TypeId) (z by' : Nat) (zv : Value) : Prop := (P.info? e).map (fun i => (i.size, i.bytes, i.zero)) = some (z, by', some zv)
theorem Info.get {P : Program} {e : TypeId} {z by' : Nat} {zv : Value} (h : Info P e z by' zv) : ∃ i, P.info? e = some i ∧ i.size = z ∧ i.bytes = by' ∧ i.zero = some zv := by
  obtain ⟨i, h1, h2⟩ := Option.map_eq_some_iff.1 h
  simp only [Prod.mk.injEq] at h2
  exact ⟨i, h1, h2.1, h2.2.1, h2.2.2⟩

section steps
variable {P : Program} {ops : Array Oper} {K : AS → Prop} {s : AS} {j : Nat} {l : List Nat} {dst : Option Tmp} {ty : TypeId} {pos : String} {after : Array Edge}

theorem AW_reg {id : Nat} {ops : Array Oper} {Q : Go.Exit → AS → Prop} (l : List Nat) (hn : List.range ops.size = l) (h : OpsW P ops l (Q .normal) s) : AW P (.region id ops false) Q s := by
  subst hn
  exact AW_region rfl h

theorem o_move {x : Operand} (ho : ops[j]? = some ⟨dst, .move x, ty, pos, after, none⟩) (hd : dOk s dst = true) (hk : OpsW P ops l K (s.put dst (aev s x))) : OpsW P ops (j :: l) K s := OpsW_cons ho rfl (OpW_move hd hk)
theorem o_asg {x : Operand} (ho : ops[j]? = some ⟨dst, .assign x, ty, pos, after, none⟩) (hd : dOk s dst = true) (hk : OpsW P ops l K (s.put dst (aev s x))) : OpsW P ops (j :: l) K s := OpsW_cons ho rfl (OpW_assign hd hk)
theorem o_ext {x : Operand} {i : Nat} {cs : List AV} {c : AV} (ho : ops[j]? = some ⟨dst, .extract x i, ty, pos, after, none⟩) (hd : dOk s dst = true) (hx : aev s x = .tup cs) (hi : cs[i]? = some c) (hk : OpsW P ops l K (s.put dst c)) : OpsW P ops (j :: l) K s := OpsW_cons ho rfl (OpW_extract hx hi hd hk)
theorem o_bin {op : BinOp} {t yt : TypeId} {x y : Operand} {k : IntKind} {a b : Int} {v : Value} (ho : ops[j]? = some ⟨dst, .binOp op t x y yt, ty, pos, after, none⟩) (hd : dOk s dst = true) (hx : aev s x = .sc (.int k a)) (hy : aev s y = .sc (.int k b)) (hv : ibin op k a b = some v)
    (hk : OpsW P ops l K (s.put dst (.sc v))) : OpsW P ops (j :: l) K s := OpsW_cons ho rfl (OpW_ibin hx hy hv hd hk)

/-- Whole numbers of 64 bits, where nothing runs over. -/
theorem wrap64 {a : Int} (h : -9223372036854775808 ≤ a ∧ a ≤ 9223372036854775807) : IntKind.i64.wrap a = a := by
  unfold IntKind.wrap
  simp [IntKind.bits, IntKind.signed]
  omega

theorem o_add {t yt : TypeId} {x y : Operand} {a b c : Int} (ho : ops[j]? = some ⟨dst, .binOp .add t x y yt, ty, pos, after, none⟩) (hd : dOk s dst = true) (hx : aev s x = .sc (.int .i64 a)) (hy : aev s y = .sc (.int .i64 b)) (hc : a + b = c) (hr : -9223372036854775808 ≤ c ∧ c ≤ 9223372036854775807)
    (hk : OpsW P ops l K (s.put dst (.sc (.int .i64 c)))) : OpsW P ops (j :: l) K s := by
  subst hc
  exact o_bin ho hd hx hy (by simp only [ibin]; rw [wrap64 hr]) hk
theorem o_sub {t yt : TypeId} {x y : Operand} {a b c : Int} (ho : ops[j]? = some ⟨dst, .binOp .sub t x y yt, ty, pos, after, none⟩) (hd : dOk s dst = true) (hx : aev s x = .sc (.int .i64 a)) (hy : aev s y = .sc (.int .i64 b)) (hc : a - b = c) (hr : -9223372036854775808 ≤ c ∧ c ≤ 9223372036854775807)
    (hk : OpsW P ops l K (s.put dst (.sc (.int .i64 c)))) : OpsW P ops (j :: l) K s := by
  subst hc
  exact o_bin ho hd hx hy (by simp only [ibin]; rw [wrap64 hr]) hk
theorem o_mul {t yt : TypeId} {x y : Operand} {a b c : Int} (ho : ops[j]? = some ⟨dst, .binOp .mul t x y yt, ty, pos, after, none⟩) (hd : dOk s dst = true) (hx : aev s x = .sc (.int .i64 a)) (hy : aev s y = .sc (.int .i64 b)) (hc : a * b = c) (hr : -9223372036854775808 ≤ c ∧ c ≤ 9223372036854775807)
    (hk : OpsW P ops l K (s.put dst (.sc (.int .i64 c)))) : OpsW P ops (j :: l) K s := by
  subst hc
  exact o_bin ho hd hx hy (by simp only [ibin]; rw [wrap64 hr]) hk
/-- A shift: the count's kind is its own. -/
theorem o_shift {op : BinOp} {t yt : TypeId} {x y : Operand} {k k' : IntKind} {a b c : Int} (ho : ops[j]? = some ⟨dst, .binOp op t x y yt, ty, pos, after, none⟩) (hd : dOk s dst = true) (hx : aev s x = .sc (.int k a)) (hy : aev s y = .sc (.int k' b)) (hop : op = .shl ∨ op = .shr) (hb : 0 ≤ b)
    (hc : (if op = .shl then k.wrap (a * 2 ^ min b.toNat k.bits) else a.fdiv (2 ^ min b.toNat k.bits)) = c)
    (hk : OpsW P ops l K (s.put dst (.sc (.int k c)))) : OpsW P ops (j :: l) K s := by
  subst hc
  refine OpsW_cons ho rfl (OpW_same hd (fun Z a' w r => ⟨_, ?_, .sc _ rfl⟩) hk)
  have h1 := aev_rel r x
  have h2 := aev_rel r y
  rw [hx] at h1
  rw [hy] at h2
  simp only [execOp, h1.sc_inv, h2.sc_inv]
  rcases hop with rfl | rfl <;> simp [eqGuard, binOp, Op.shift, Int.not_lt.2 hb]
theorem o_sbin {op : BinOp} {t yt : TypeId} {x y : Operand} {a b : ByteArray} {v : Value} (ho : ops[j]? = some ⟨dst, .binOp op t x y yt, ty, pos, after, none⟩) (hd : dOk s dst = true) (hx : aev s x = .sc (.string a)) (hy : aev s y = .sc (.string b)) (hv : sbin op a b = some v)
    (hk : OpsW P ops l K (s.put dst (.sc v))) : OpsW P ops (j :: l) K s := OpsW_cons ho rfl (OpW_sbin hx hy hv hd hk)
theorem o_not {t : TypeId} {x : Operand} {b : Bool} (ho : ops[j]? = some ⟨dst, .unOp .not t x, ty, pos, after, none⟩) (hd : dOk s dst = true) (hx : aev s x = .sc (.bool b)) (hk : OpsW P ops l K (s.put dst (.sc (.bool (!b))))) : OpsW P ops (j :: l) K s := OpsW_cons ho rfl (OpW_not hx hd hk)
theorem o_pick {c x y : Operand} {b : Bool} {v : AV} (ho : ops[j]? = some ⟨dst, .pick c x y, ty, pos, after, none⟩) (hd : dOk s dst = true) (hc : aev s c = .sc (.bool b)) (hv : (if b then aev s x else aev s y) = v) (hk : OpsW P ops l K (s.put dst v)) : OpsW P ops (j :: l) K s := by
  subst hv
  exact OpsW_cons ho rfl (OpW_pick hc hd hk)
theorem o_ci {src dt : TypeId} {x : Operand} {k k' : IntKind} {d' : TypeDesc} {n m : Int} (ho : ops[j]? = some ⟨dst, .convert src dt x, ty, pos, after, none⟩) (hd : dOk s dst = true) (hs : P.underlying src = some d') (ht : P.underlying dt = some (.int k')) (hx : aev s x = .sc (.int k n)) (hm : k'.wrap n = m)
    (hk : OpsW P ops l K (s.put dst (.sc (.int k' m)))) : OpsW P ops (j :: l) K s := by
  subst hm
  exact OpsW_cons ho rfl (OpW_conv_int hs ht hx hd hk)
theorem o_len {x : Operand} {t e : TypeId} {n : Nat} (ho : ops[j]? = some ⟨dst, .call { callee := .builtin .len, args := #[x], argTypes := #[t] }, ty, pos, after, none⟩) (hd : dOk s dst = true) (ht : P.underlying t = some (.slice e)) (hx : lenOf (aev s x) = some n) (hk : OpsW P ops l K (s.put dst (.sc (.int .i64 n)))) : OpsW P ops (j :: l) K s := OpsW_cons ho rfl (OpW_len ht hx hd hk)
theorem o_lens {x : Operand} {t : TypeId} {b : ByteArray} (ho : ops[j]? = some ⟨dst, .call { callee := .builtin .len, args := #[x], argTypes := #[t] }, ty, pos, after, none⟩) (hd : dOk s dst = true) (ht : P.underlying t = some .string) (hx : aev s x = .sc (.string b)) (hk : OpsW P ops l K (s.put dst (.sc (.int .i64 b.size)))) : OpsW P ops (j :: l) K s := OpsW_cons ho rfl (OpW_len_str ht hx hd hk)
/-- x[i], of a row that is only read. -/
theorem o_ixl {t e : TypeId} {x y : Operand} {cs : List AV} {n z : Nat} {k : IntKind} {i : Int} {i' : Nat} (ho : ops[j]? = some ⟨dst, .indexAddr t x y, ty, pos, after, none⟩) (hd : dOk s dst = true) (ht : P.underlying t = some (.slice e)) (hz : (P.info? e).map (·.size) = some z) (hx : aev s x = .lst cs n) (hy : aev s y = .sc (.int k i)) (hi : i = (i' : Int)) (hj : i' < n)
    (hne : cs ≠ []) (hk : OpsW P ops l K (s.put dst (.rptr cs (i' * z)))) : OpsW P ops (j :: l) K s := OpsW_cons ho rfl (OpW_indexAddr_l hx hy hi hj ht hz hne hd hk)
theorem o_ixs {t e : TypeId} {x y : Operand} {b off n z : Nat} {k : IntKind} {i : Int} {i' : Nat} (ho : ops[j]? = some ⟨dst, .indexAddr t x y, ty, pos, after, none⟩) (hd : dOk s dst = true) (ht : P.underlying t = some (.slice e)) (hz : (P.info? e).map (·.size) = some z) (hx : aev s x = .sl b off n z) (hy : aev s y = .sc (.int k i)) (hi : i = (i' : Int)) (hj : i' < n)
    (hk : OpsW P ops l K (s.put dst (.ptr b (off + i' * z)))) : OpsW P ops (j :: l) K s := OpsW_cons ho rfl (OpW_indexAddr_s hx hy hi hj ht hz hd hk)
theorem o_ld {t : TypeId} {p : Operand} {cs : List AV} {off : Nat} {c : AV} {d : TypeDesc} (ho : ops[j]? = some ⟨dst, .load t p, ty, pos, after, none⟩) (hd : dOk s dst = true) (ht : P.underlying t = some d) (hag : isAggD d = false) (hp : atp s (aev s p) = some (cs, off)) (hc : cs[off]? = some c) (hk : OpsW P ops l K (s.put dst c)) : OpsW P ops (j :: l) K s := OpsW_cons ho rfl (OpW_load hp ht hag hc hd hk)
theorem o_cb {src dt e : TypeId} {x : Operand} {bs : List UInt8} (ho : ops[j]? = some ⟨dst, .convert src dt x, ty, pos, after, none⟩) (hd : dOk s dst = true) (hs : P.underlying src = some (.slice e)) (he : P.underlying e = some (.int .u8)) (ht : P.underlying dt = some .string) (hx : acont s (aev s x) = some (bcells bs, bs.length))
    (hk : OpsW P ops l K (s.put dst (.sc (.string (strB bs))))) : OpsW P ops (j :: l) K s := OpsW_cons ho rfl (OpW_conv_bytes hs he ht hx hd hk)
theorem o_bs {t e : TypeId} {len z : Nat} {parts : Array (Nat × Operand)} {by' : Nat} {zv : Value} {ps : List (Nat × List AV)} {cs : List AV} (ho : ops[j]? = some ⟨dst, .buildSlice t len parts, ty, pos, after, none⟩) (hd : dOk s dst = true) (hu : P.underlying t = some (.slice e)) (hI : Info P e z by' zv)
    (hzc : zv.cells.size = z) (h1 : zv.cells.all (·.oneCell') = true) (hpos : len * z ≠ 0) (hsmall : len * z ≤ 16777216) (hp : aparts s parts.toList = some ps) (hf : afill (fun i => some (i * z, z)) (azeros len (zv.cells.toList.map cAV)) ps = some cs)
    (hk : ∀ v' h' n', Row h' v' cs len z → (∀ b o, h' b = some o → b < n') → (∀ b, s.h b ≠ none → h' b = s.h b ∧ blk v' ≠ some b) → OpsW P ops l K ((AS.mk s.t h' n' s.sz).put dst v')) : OpsW P ops (j :: l) K s := by
  obtain ⟨ie, hie, hsz, _, hz⟩ := hI.get
  refine OpsW_cons ho rfl (OpW_hl fun hl => OpW_buildSlice hu hie hz hsz hzc h1 hpos hsmall hp hf hd (fun b hb => hk _ _ (b + 1) ⟨?_, .inr ⟨b, rfl, Heap.set_eq _ _ _⟩⟩ (fun k o hk => ?_) (fun k hk1 => ?_)))
  · have h2 := afill_length _ ps _ _ hf
    rw [h2]
    simp [azeros, hzc]
  · by_cases hkb : k = b
    · omega
    · rw [Heap.set_ne _ _ _ _ hkb] at hk
      have := hl k o hk
      omega
  · have hkb : k ≠ b := by
      rintro rfl
      rcases Option.eq_none_or_eq_some (s.h k) with e | ⟨o, e⟩
      · exact hk1 e
      · have := hl k o e
        omega
    refine ⟨Heap.set_ne _ _ _ _ hkb, ?_⟩
    simp only [blk, ne_eq, Option.some.injEq]
    exact fun e => hkb e.symm
theorem o_app {x y : Operand} {t tx e e' : TypeId} {by' : Nat} {zv : Value} {n z m : Nat} {cs ys : List AV} (ho : ops[j]? = some ⟨dst, .call { callee := .builtin .append, args := #[x, y], argTypes := #[t, tx] }, ty, pos, after, none⟩) (hd : dOk s dst = true)
    (ht : P.underlying t = some (.slice e)) (htx : P.underlying tx = some (.slice e')) (hI : Info P e z by' zv) (hzc : zv.cells.size = z)
    (hx : Row s.h (aev s x) cs n z) (hy : acont s (aev s y) = some (ys, m)) (hyl : ys.length = m * z) (hns : ∀ b, aev s y ≠ .sc (.string b)) (hroom : (n + m) * by' ≤ 140737488355328) (hmax : n + m ≤ 9223372036854775807)
    (hk : ∀ v' h' n', Row h' v' (cs ++ ys) (n + m) z → (∀ b o, h' b = some o → b < n') → (∀ b, s.h b ≠ none → blk (aev s x) ≠ some b → h' b = s.h b ∧ blk v' ≠ some b) → OpsW P ops l K ((AS.mk s.t h' n' s.sz).put dst v')) :
    OpsW P ops (j :: l) K s := by
  obtain ⟨i, hi, hsz, rfl, hz⟩ := hI.get
  refine OpsW_cons ho rfl (OpW_app hx ?_ hyl (.inl ⟨e', htx, hy⟩) ht hi hz hsz hzc hroom hmax hd hk)
  unfold asrc
  split
  · rename_i b hb
    exact absurd hb (hns b)
  · exact hy
theorem o_apps {x y : Operand} {t tx e : TypeId} {by' : Nat} {zv : Value} {n : Nat} {cs : List AV} {b : ByteArray} (ho : ops[j]? = some ⟨dst, .call { callee := .builtin .append, args := #[x, y], argTypes := #[t, tx] }, ty, pos, after, none⟩) (hd : dOk s dst = true)
    (ht : P.underlying t = some (.slice e)) (htx : P.underlying tx = some .string) (hI : Info P e 1 by' zv) (hzc : zv.cells.size = 1)
    (hx : Row s.h (aev s x) cs n 1) (hy : aev s y = .sc (.string b)) (hroom : (n + b.size) * by' ≤ 140737488355328) (hmax : n + b.size ≤ 9223372036854775807)
    (hk : ∀ v' h' n', Row h' v' (cs ++ bcells b.data.toList) (n + b.size) 1 → (∀ b o, h' b = some o → b < n') → (∀ b, s.h b ≠ none → blk (aev s x) ≠ some b → h' b = s.h b ∧ blk v' ≠ some b) → OpsW P ops l K ((AS.mk s.t h' n' s.sz).put dst v')) :
    OpsW P ops (j :: l) K s := by
  obtain ⟨i, hi, hsz, rfl, hz⟩ := hI.get
  refine OpsW_cons ho rfl (OpW_app hx (ys := bcells b.data.toList) (m := b.size) ?_ ?_ (.inr ⟨htx, rfl, b, hy⟩) ht hi hz hsz hzc hroom hmax hd hk)
  · rw [hy]
    simp only [asrc, bcells_str]
  · simp [bcells_length]
/-- A call of a function that owns nothing at its beginning. -/
theorem o_call {f : FuncId} {fn : Func} {xs : Array Operand} {ts : Array TypeId} {args args' : List AV} {R : AV → Heap → Prop} (ho : ops[j]? = some ⟨dst, .call { callee := .value (.func f), args := xs, argTypes := ts }, ty, pos, after, none⟩) (hd : dOk s dst = true) (hfn : P.funcs[f]? = some fn) (hb : fn.body.isSome = true) (hname : (fn.name == "runtime.NumGoroutine") = false)
    (ha : xs.toList.map (aev s) = args) (hc : AC P f args' Heap.empty R) (hlen : args.length = args'.length) (hl : ∀ (i : Nat) (a a' : AV), args[i]? = some a → args'[i]? = some a' → Lent s.h a a')
    (hno : ∀ r hr, R r hr → noLst r = true)
    (hk : ∀ r hr n', R r hr → (∀ b o, s.h.merge hr.clean b = some o → b < n') → (∀ b, hr b ≠ none → s.h b = none) → OpsW P ops l K ((AS.mk s.t (s.h.merge hr.clean) n' s.sz).put dst r)) : OpsW P ops (j :: l) K s := by
  refine OpsW_cons ho rfl (OpW_call (f := f) (caps := []) rfl hfn hb hname (by rw [List.append_nil]; exact ha) (hc.lend hlen hl hno) hd ?_)
  rintro r h' n' ⟨hr, h1, rfl, h2⟩ h3 h4 h5
  exact hk r hr n' h1 h4 h2
/-- The same, where all arguments are told by what is only read. -/
theorem o_callf {f : FuncId} {fn : Func} {xs : Array Operand} {ts : Array TypeId} {args : List AV} {R : AV → Heap → Prop} (ho : ops[j]? = some ⟨dst, .call { callee := .value (.func f), args := xs, argTypes := ts }, ty, pos, after, none⟩) (hd : dOk s dst = true) (hfn : P.funcs[f]? = some fn) (hb : fn.body.isSome = true) (hname : (fn.name == "runtime.NumGoroutine") = false)
    (ha : xs.toList.map (aev s) = args) (hc : AC P f args Heap.empty R)
    (hk : ∀ r hr n', R r hr → (∀ b o, s.h.merge hr b = some o → b < n') → (∀ b, hr b ≠ none → s.h b = none) → OpsW P ops l K ((AS.mk s.t (s.h.merge hr) n' s.sz).put dst r)) : OpsW P ops (j :: l) K s := by
  refine OpsW_cons ho rfl (OpW_call (f := f) (caps := []) rfl hfn hb hname (by rw [List.append_nil]; exact ha) (hc.frame s.h) hd ?_)
  rintro r h' n' ⟨hr, h1, rfl, h2⟩ h3 h4 h5
  exact hk r hr n' h1 h4 h2

/-- A guarded operation that is done; one that isn't. -/
theorem o_on {o : Oper} {i d : Nat} {want : Bool} (ho : ops[j]? = some o) (hg : o.guard = some (i, want)) (hj : ((ops[i]?).bind (·.dst)) = some d) (hv : s.t d = .sc (.bool want)) (hd : decide (d < s.sz) = true) (h : OpW P { o with guard := none } (OpsW P ops l K) s) : OpsW P ops (j :: l) K s :=
  OpsW_guard_on ho hg hj hv (of_decide_eq_true hd) h
theorem o_off {o : Oper} {i d : Nat} {want : Bool} (ho : ops[j]? = some o) (hg : o.guard = some (i, want)) (hj : ((ops[i]?).bind (·.dst)) = some d) (hv : s.t d = .sc (.bool (!want)) ∨ s.t d = .tup []) (hd : decide (d < s.sz) = true) (hdst : dOk s o.dst = true) (h : OpsW P ops l K (s.put o.dst (.tup []))) : OpsW P ops (j :: l) K s :=
  OpsW_guard_off ho hg hj hv (of_decide_eq_true hd) hdst h
end steps
end Go.Proofs.Ytglgdaeimfdpfaa.VM
