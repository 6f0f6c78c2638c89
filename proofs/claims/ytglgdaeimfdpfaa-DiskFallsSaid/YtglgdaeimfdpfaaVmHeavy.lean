/- The abstract logic: operations that make rows, one at a time. -/
import Derived.Test.YtglgdaeimfdpfaaVmBits
namespace Go.Proofs.Ytglgdaeimfdpfaa.VM
open Go Go.RowKit
/-- What is handed back, told apart from the state. -/
theorem endR {s : AS} {rs : List ResultVar} {R : AV → Heap → Prop} (r : AV) (h : Heap) (hr : resAV s rs = some r) (hh : s.h = h) (hR : R r h) : endQ rs R .ret s := ⟨r, hr, by rw [hh]; exact hR⟩
/-- The state, told anew by a list. -/
theorem AW_st {P : Program} {c : Code} {Q : Go.Exit → AS → Prop} {s : AS} {N : Nat} (L : List (Nat × AV)) (h : Heap) (hN : s.sz = N) (hh : s.h = h) (hf : FitsEq s L) (k : ∀ n, (∀ b o, h b = some o → b < n) → AW P c Q (St L h n N)) : AW P c Q s := by
  subst hN
  subst hh
  intro Z a w r
  exact AW_weak hf.fits (k s.n r.hl) Z a w r

theorem OpsW_weak {P : Program} {ops : Array Oper} {li : List Nat} {K : AS → Prop} {s : AS} {l : List (Nat × AV)} (hf : Fits s l) (h : OpsW P ops li K (St l s.h s.n s.sz)) : OpsW P ops li K s :=
  fun Z a w r => h Z a w ⟨fun t => (hf.get t).rel (r.tm t), r.ts, r.df, r.gd, r.hn, r.hl⟩

/-- A row of one's own is given away in the midst of a region. -/
theorem OpsW_pubRow {P : Program} {ops : Array Oper} {li : List Nat} {K : AS → Prop} {s : AS} {d n z : Nat} {cs : List AV} {N : Nat} (L : List (Nat × AV)) (hN : s.sz = N) (hr : Row s.h (s.t d) cs n z) (hf : FitsEq s L) (hd0 : (L.all fun p => p.1 != d) = true)
    (h : ∀ h' n', (∀ b o, h' b = some o → b < n') → (∀ b, s.h b ≠ none → blk (s.t d) ≠ some b → h' b = s.h b) → OpsW P ops li K (St ((d, .lst cs n) :: L) h' n' N)) : OpsW P ops li K s := by
  subst hN
  have hd : ∀ p ∈ L, p.1 ≠ d := fun p hp => by simpa using List.all_eq_true.1 hd0 p hp
  have fit : ∀ (s' : AS) (l : List (Nat × AV)), (∀ p ∈ l, p.1 ≠ d) → (∀ u, u ≠ d → s'.t u = s.t u) → FitsEq s l → Fits s' l := by
    intro s' l
    induction l with
    | nil => exact fun _ _ _ => trivial
    | cons p l ih =>
      obtain ⟨k, v⟩ := p
      intro h1 h2 h3
      refine ⟨?_, ih (fun q hq => h1 q (List.mem_cons_of_mem _ hq)) h2 h3.2⟩
      rw [h2 k (h1 _ List.mem_cons_self), h3.1]
      exact .same _
  intro Z a w r
  obtain ⟨hl, ⟨hv, rfl⟩ | ⟨b, hv, hb⟩⟩ := hr
  · have hcs : cs = [] := List.eq_nil_of_length_eq_zero (by omega)
    subst hcs
    refine (OpsW_weak (l := (d, .lst [] 0) :: L) ⟨by rw [hv]; exact .nil, fit s L hd (fun _ _ => rfl) hf⟩ (h s.h s.n r.hl (fun b _ _ => rfl))) Z a w r
  · have hlt : b < s.n := r.hl b cs hb
    have key : OpsW P ops li K (s.pub d b (.lst ((cs.drop 0).take (n * z)) n)) := by
      have he : (cs.drop 0).take (n * z) = cs := by rw [List.drop_zero, ← hl, List.take_length]
      rw [he]
      refine OpsW_weak (l := (d, .lst cs n) :: L) ⟨?_, fit _ L hd (fun u hu => by simp [AS.pub, hu]) hf⟩ ?_
      · have : (s.pub d b (.lst cs n)).t d = .lst cs n := by simp [AS.pub]
        rw [this]
        exact .same _
      · refine h _ _ (fun k o hk => ?_) (fun k hk1 hk2 => ?_)
        · have hk' : s.h.set b none k = some o := hk
          by_cases hkb : k = b
          · rw [hkb, Heap.set_eq] at hk'; cases hk'
          · rw [Heap.set_ne _ _ _ _ hkb] at hk'
            exact r.hl k o hk'
        · have hkb : k ≠ b := by
            rintro rfl
            exact hk2 (by rw [hv]; rfl)
          exact Heap.set_ne _ _ _ _ hkb
    exact OpsW_pub hv hb (by omega) key Z a w r
theorem Row.stay {h h' : Heap} {v v1 : AV} {cs : List AV} {n z : Nat} (r : Row h v cs n z) (hs : sep v v1) (hk : ∀ b, h b ≠ none → blk v1 ≠ some b → h' b = h b) : Row h' v cs n z :=
  r.keep fun b hb hb2 => hk b hb2 (hs b hb)
theorem or_mul {a b k : Nat} (h : a % 2 ^ k = 0) (hb : b < 2 ^ k) : a ||| b = a + b := by
  have := Nat.shiftLeft_add_eq_or_of_lt (i := k) (b := b) hb (a / 2 ^ k)
  rw [Nat.shiftLeft_eq] at this
  rw [show a / 2 ^ k * 2 ^ k = a by have := Nat.div_add_mod a (2 ^ k); rw [h] at this; rw [Nat.mul_comm]; omega] at this
  exact this.symm

theorem shl24 (n : Nat) (h : n < 256) : IntKind.i64.wrap ((n : Int) * 2 ^ min (24 : Int).toNat IntKind.i64.bits) = ((n * 16777216 : Nat) : Int) := by
  rw [shl_nat n 24 (by decide) (by simp; omega)]
  simp
theorem shl16 (n : Nat) (h : n < 256) : IntKind.i64.wrap ((n : Int) * 2 ^ min (16 : Int).toNat IntKind.i64.bits) = ((n * 65536 : Nat) : Int) := by
  rw [shl_nat n 16 (by decide) (by simp; omega)]
  simp
theorem shl8 (n : Nat) (h : n < 256) : IntKind.i64.wrap ((n : Int) * 2 ^ min (8 : Int).toNat IntKind.i64.bits) = ((n * 256 : Nat) : Int) := by
  rw [shl_nat n 8 (by decide) (by simp; omega)]
  simp

section w
variable {P : Program} {K : AS → Prop} {s : AS} {dst : Option Tmp} {ty : TypeId} {pos : String} {after : Array Edge}
theorem w_bs {t e : TypeId} {len z : Nat} {parts : Array (Nat × Operand)} {by' : Nat} {zv : Value} {ps : List (Nat × List AV)} {cs : List AV} (hd : dOk s dst = true) (hu : P.underlying t = some (.slice e)) (hI : Info P e z by' zv)
    (hzc : zv.cells.size = z) (h1 : zv.cells.all (·.oneCell') = true) (hpos : len * z ≠ 0) (hsmall : len * z ≤ 16777216) (hp : aparts s parts.toList = some ps) (hf : afill (fun i => some (i * z, z)) (azeros len (zv.cells.toList.map cAV)) ps = some cs)
    (hk : ∀ v' h' n', Row h' v' cs len z → (∀ b o, h' b = some o → b < n') → (∀ b, s.h b ≠ none → h' b = s.h b ∧ blk v' ≠ some b) → K ((AS.mk s.t h' n' s.sz).put dst v')) : OpW P ⟨dst, .buildSlice t len parts, ty, pos, after, none⟩ K s := by
  obtain ⟨ie, hie, hsz, _, hz⟩ := hI.get
  refine OpW_hl fun hl => OpW_buildSlice hu hie hz hsz hzc h1 hpos hsmall hp hf hd (fun b hb => hk _ _ (b + 1) ⟨?_, .inr ⟨b, rfl, Heap.set_eq _ _ _⟩⟩ (fun k o hk => ?_) (fun k hk1 => ?_))
  · have h2 := afill_length _ ps _ _ hf
    rw [h2]
    simp [azeros, hzc]
  · by_cases hkb : k = b
    · omega
    · rw [Heap.set_ne _ _ _ _ hkb] at hk
      have := hl k o hk
      omega
  · have hkb : k ≠ b := by
      rintro rfl
      rcases Option.eq_none_or_eq_some (s.h k) with e | ⟨o, e⟩
      · exact hk1 e
      · have := hl k o e
        omega
    refine ⟨Heap.set_ne _ _ _ _ hkb, ?_⟩
    simp only [blk, ne_eq, Option.some.injEq]
    exact fun e => hkb e.symm
theorem w_app {x y : Operand} {t tx e e' : TypeId} {by' : Nat} {zv : Value} {n z m : Nat} {cs ys : List AV} (hd : dOk s dst = true)
    (ht : P.underlying t = some (.slice e)) (htx : P.underlying tx = some (.slice e')) (hI : Info P e z by' zv) (hzc : zv.cells.size = z)
    (hx : Row s.h (aev s x) cs n z) (hy : acont s (aev s y) = some (ys, m)) (hyl : ys.length = m * z) (hns : ∀ b, aev s y ≠ .sc (.string b)) (hroom : (n + m) * by' ≤ 140737488355328) (hmax : n + m ≤ 9223372036854775807)
    (hk : ∀ v' h' n', Row h' v' (cs ++ ys) (n + m) z → (∀ b o, h' b = some o → b < n') → (∀ b, s.h b ≠ none → blk (aev s x) ≠ some b → h' b = s.h b ∧ blk v' ≠ some b) → K ((AS.mk s.t h' n' s.sz).put dst v')) :
    OpW P ⟨dst, .call { callee := .builtin .append, args := #[x, y], argTypes := #[t, tx] }, ty, pos, after, none⟩ K s := by
  obtain ⟨i, hi, hsz, rfl, hz⟩ := hI.get
  refine OpW_app hx ?_ hyl (.inl ⟨e', htx, hy⟩) ht hi hz hsz hzc hroom hmax hd hk
  unfold asrc
  split
  · rename_i b hb
    exact absurd hb (hns b)
  · exact hy
theorem w_apps {x y : Operand} {t tx e : TypeId} {by' : Nat} {zv : Value} {n : Nat} {cs : List AV} {b : ByteArray} (hd : dOk s dst = true)
    (ht : P.underlying t = some (.slice e)) (htx : P.underlying tx = some .string) (hI : Info P e 1 by' zv) (hzc : zv.cells.size = 1)
    (hx : Row s.h (aev s x) cs n 1) (hy : aev s y = .sc (.string b)) (hroom : (n + b.size) * by' ≤ 140737488355328) (hmax : n + b.size ≤ 9223372036854775807)
    (hk : ∀ v' h' n', Row h' v' (cs ++ bcells b.data.toList) (n + b.size) 1 → (∀ b o, h' b = some o → b < n') → (∀ b, s.h b ≠ none → blk (aev s x) ≠ some b → h' b = s.h b ∧ blk v' ≠ some b) → K ((AS.mk s.t h' n' s.sz).put dst v')) :
    OpW P ⟨dst, .call { callee := .builtin .append, args := #[x, y], argTypes := #[t, tx] }, ty, pos, after, none⟩ K s := by
  obtain ⟨i, hi, hsz, rfl, hz⟩ := hI.get
  refine OpW_app hx (ys := bcells b.data.toList) (m := b.size) ?_ ?_ (.inr ⟨htx, rfl, b, hy⟩) ht hi hz hsz hzc hroom hmax hd hk
  · rw [hy]
    simp only [asrc, bcells_str]
  · simp [bcells_length]
theorem w_bs0 {t e : TypeId} {z by' : Nat} {zv : Value} (hd : dOk s dst = true) (hu : P.underlying t = some (.slice e)) (hI : Info P e z by' zv)
    (hk : ∀ v' h' n', Row h' v' [] 0 z → (∀ b o, h' b = some o → b < n') → (∀ b, s.h b ≠ none → h' b = s.h b ∧ blk v' ≠ some b) → K ((AS.mk s.t h' n' s.sz).put dst v')) : OpW P ⟨dst, .buildSlice t 0 #[], ty, pos, after, none⟩ K s := by
  obtain ⟨ie, hie, hsz, _, hz⟩ := hI.get
  refine OpW_hl fun hl => OpW_buildSlice0 (z := z) hu hie hd (fun b hb => hk _ _ (b + 1) ⟨by simp, .inr ⟨b, rfl, Heap.set_eq _ _ _⟩⟩ (fun k o hk => ?_) (fun k hk1 => ?_))
  · by_cases hkb : k = b
    · omega
    · rw [Heap.set_ne _ _ _ _ hkb] at hk
      have := hl k o hk
      omega
  · have hkb : k ≠ b := by
      rintro rfl
      rcases Option.eq_none_or_eq_some (s.h k) with e | ⟨o, e⟩
      · exact hk1 e
      · have := hl k o e
        omega
    refine ⟨Heap.set_ne _ _ _ _ hkb, ?_⟩
    simp only [blk, ne_eq, Option.some.injEq]
    exact fun e => hkb e.symm
theorem w_sb {src dt e : TypeId} {u : TypeDesc} {x : Operand} {b : List UInt8} (hd : dOk s dst = true) (hs : P.underlying src = some u) (ht : P.underlying dt = some (.slice e)) (he : P.underlying e = some (.int .u8)) (hx : aev s x = .txt b)
    (hk : ∀ v' h' n', Row h' v' (bcells b) b.length 1 → (∀ b o, h' b = some o → b < n') → (∀ b, s.h b ≠ none → h' b = s.h b ∧ blk v' ≠ some b) → K ((AS.mk s.t h' n' s.sz).put dst v')) : OpW P ⟨dst, .convert src dt x, ty, pos, after, none⟩ K s := by
  refine OpW_hl fun hl => OpW_conv_str_bytes hs ht he hx hd (fun k hk0 => hk _ _ (k + 1) ⟨by simp [bcells_length], .inr ⟨k, rfl, Heap.set_eq _ _ _⟩⟩ (fun q o hq => ?_) (fun q hq => ?_))
  · by_cases hkb : q = k
    · omega
    · rw [Heap.set_ne _ _ _ _ hkb] at hq
      have := hl q o hq
      omega
  · have hkb : q ≠ k := by
      rintro rfl
      rcases Option.eq_none_or_eq_some (s.h q) with e | ⟨o, e⟩
      · exact hq e
      · have := hl q o e
        omega
    refine ⟨Heap.set_ne _ _ _ _ hkb, ?_⟩
    simp only [blk, ne_eq, Option.some.injEq]
    exact fun e => hkb e.symm
theorem w_call {f : FuncId} {fn : Func} {xs : Array Operand} {ts : Array TypeId} {args args' : List AV} {R : AV → Heap → Prop} (hd : dOk s dst = true) (hfn : P.funcs[f]? = some fn) (hb : fn.body.isSome = true) (hname : (fn.name == "runtime.NumGoroutine") = false)
    (ha : xs.toList.map (aev s) = args) (hc : AC P f args' Heap.empty R) (hlen : args.length = args'.length) (hl : ∀ (i : Nat) (a a' : AV), args[i]? = some a → args'[i]? = some a' → Lent s.h a a')
    (hno : ∀ r hr, R r hr → noLst r = true)
    (hk : ∀ r hr n', R r hr → (∀ b o, s.h.merge hr.clean b = some o → b < n') → (∀ b, hr b ≠ none → s.h b = none) → K ((AS.mk s.t (s.h.merge hr.clean) n' s.sz).put dst r)) : OpW P ⟨dst, .call { callee := .value (.func f), args := xs, argTypes := ts }, ty, pos, after, none⟩ K s := by
  refine OpW_call (f := f) (caps := []) rfl hfn hb hname (by rw [List.append_nil]; exact ha) (hc.lend hlen hl hno) hd ?_
  rintro r h' n' ⟨hr, h1, rfl, h2⟩ h3 h4 h5
  exact hk r hr n' h1 h4 h2
theorem w_callf {f : FuncId} {fn : Func} {xs : Array Operand} {ts : Array TypeId} {args : List AV} {R : AV → Heap → Prop} (hd : dOk s dst = true) (hfn : P.funcs[f]? = some fn) (hb : fn.body.isSome = true) (hname : (fn.name == "runtime.NumGoroutine") = false)
    (ha : xs.toList.map (aev s) = args) (hc : AC P f args Heap.empty R)
    (hk : ∀ r hr n', R r hr → (∀ b o, s.h.merge hr b = some o → b < n') → (∀ b, hr b ≠ none → s.h b = none) → K ((AS.mk s.t (s.h.merge hr) n' s.sz).put dst r)) : OpW P ⟨dst, .call { callee := .value (.func f), args := xs, argTypes := ts }, ty, pos, after, none⟩ K s := by
  refine OpW_call (f := f) (caps := []) rfl hfn hb hname (by rw [List.append_nil]; exact ha) (hc.frame s.h) hd ?_
  rintro r h' n' ⟨hr, h1, rfl, h2⟩ h3 h4 h5
  exact hk r hr n' h1 h4 h2

theorem w_shl {t yt : TypeId} {x y : Operand} {k k' : IntKind} {a b c : Int} (hd : dOk s dst = true) (hx : aev s x = .sc (.int k a)) (hy : aev s y = .sc (.int k' b)) (hb : 0 ≤ b) (hc : k.wrap (a * 2 ^ min b.toNat k.bits) = c) (hk : K (s.put dst (.sc (.int k c)))) : OpW P ⟨dst, .binOp .shl t x y yt, ty, pos, after, none⟩ K s :=
  w_shift hd hx hy (.inl rfl) hb (by rw [if_pos rfl]; exact hc) hk
theorem w_shr {t yt : TypeId} {x y : Operand} {k k' : IntKind} {a b c : Int} (hd : dOk s dst = true) (hx : aev s x = .sc (.int k a)) (hy : aev s y = .sc (.int k' b)) (hb : 0 ≤ b) (hc : a.fdiv (2 ^ min b.toNat k.bits) = c) (hk : K (s.put dst (.sc (.int k c)))) : OpW P ⟨dst, .binOp .shr t x y yt, ty, pos, after, none⟩ K s :=
  w_shift hd hx hy (.inr rfl) hb (by rw [if_neg (by decide)]; exact hc) hk
end w
end Go.Proofs.Ytglgdaeimfdpfaa.VM
