/- The abstract logic: operations that make rows, one at a time. -/
import Derived.Test.YtaojoppkkmpieaaVmBits
namespace Go.Proofs.Ytaojoppkkmpieaa.VM
open Go Go.RowKit
/-- What is handed back, told apart from the state. -/
theorem endR {s : AS} {rs : List ResultVar} {R : AV → Heap → Prop} (r : AV) (h : Heap) (hr : resAV s rs = some r) (hh : s.h = h) (hR : R r h) : endQ rs R .ret s := ⟨r, hr, by rw [hh]; exact hR⟩
/-- The state, told anew by a list. -/
theorem AW_st {P : Program} {c : Code} {Q : Go.Exit → AS → Prop} {s : AS} {N : Nat} (L : List (Nat × AV)) (h : Heap) (hN : s.sz = N) (hh : s.h = h) (hf : FitsEq s L) (k : ∀ n, (∀ b o, h b = some o → b < n) → AW P c Q (St L h n N)) : AW P c Q s := by
  subst hN
  subst hh
  intro Z a w r
  exact AW_weak hf.fits (k s.n r.hl) Z a w r

section w
variable {P : Program} {K : AS → Prop} {s : AS} {dst : Option Tmp} {ty : TypeId} {pos : String} {after : Array Edge}
theorem w_bs {t e : TypeId} {len z : Nat} {parts : Array (Nat × Operand)} {by' : Nat} {zv : Value} {ps : List (Nat × List AV)} {cs : List AV} (hd : dOk s dst = true) (hu : P.underlying t = some (.slice e)) (hI : Info P e z by' zv)
    (hzc : zv.cells.size = z) (h1 : zv.cells.all (·.oneCell') = true) (hpos : len * z ≠ 0) (hsmall : len * z ≤ 16777216) (hp : aparts s parts.toList = some ps) (hf : afill (fun i => some (i * z, z)) (azeros len (zv.cells.toList.map cAV)) ps = some cs)
    (hk : ∀ v' h' n', Row h' v' cs len z → (∀ b o, h' b = some o → b < n') → (∀ b, s.h b ≠ none → h' b = s.h b ∧ blk v' ≠ some b) → K ((AS.mk s.t h' n' s.sz).put dst v')) : OpW P ⟨dst, .buildSlice t len parts, ty, pos, after, none⟩ K s := by
  obtain ⟨ie, hie, hsz, _, hz⟩ := hI.get
  refine OpW_hl fun hl => OpW_buildSlice hu hie hz hsz hzc h1 hpos hsmall hp hf hd (fun b hb => hk _ _ (b + 1) ⟨?_, .inr ⟨b, rfl, Heap.set_eq _ _ _⟩⟩ (fun k o hk => ?_) (fun k hk1 => ?_))
  · have h2 := afill_length _ ps _ _ hf
    rw [h2]
    simp [azeros, hzc]
  · by_cases hkb : k = b
    · omega
    · rw [Heap.set_ne _ _ _ _ hkb] at hk
      have := hl k o hk
      omega
  · have hkb : k ≠ b := by
      rintro rfl
      rcases Option.eq_none_or_eq_some (s.h k) with e | ⟨o, e⟩
      · exact hk1 e
      · have := hl k o e
        omega
    refine ⟨Heap.set_ne _ _ _ _ hkb, ?_⟩
    simp only [blk, ne_eq, Option.some.injEq]
    exact fun e => hkb e.symm
theorem w_app {x y : Operand} {t tx e e' : TypeId} {by' : Nat} {zv : Value} {n z m : Nat} {cs ys : List AV} (hd : dOk s dst = true)
    (ht : P.underlying t = some (.slice e)) (htx : P.underlying tx = some (.slice e')) (hI : Info P e z by' zv) (hzc : zv.cells.size = z)
    (hx : Row s.h (aev s x) cs n z) (hy : acont s (aev s y) = some (ys, m)) (hyl : ys.length = m * z) (hns : ∀ b, aev s y ≠ .sc (.string b)) (hroom : (n + m) * by' ≤ 140737488355328) (hmax : n + m ≤ 9223372036854775807)
    (hk : ∀ v' h' n', Row h' v' (cs ++ ys) (n + m) z → (∀ b o, h' b = some o → b < n') → (∀ b, s.h b ≠ none → blk (aev s x) ≠ some b → h' b = s.h b ∧ blk v' ≠ some b) → K ((AS.mk s.t h' n' s.sz).put dst v')) :
    OpW P ⟨dst, .call { callee := .builtin .append, args := #[x, y], argTypes := #[t, tx] }, ty, pos, after, none⟩ K s := by
  obtain ⟨i, hi, hsz, rfl, hz⟩ := hI.get
  refine OpW_app hx ?_ hyl (.inl ⟨e', htx, hy⟩) ht hi hz hsz hzc hroom hmax hd hk
  unfold asrc
  split
  · rename_i b hb
    exact absurd hb (hns b)
  · exact hy
theorem w_apps {x y : Operand} {t tx e : TypeId} {by' : Nat} {zv : Value} {n : Nat} {cs : List AV} {b : ByteArray} (hd : dOk s dst = true)
    (ht : P.underlying t = some (.slice e)) (htx : P.underlying tx = some .string) (hI : Info P e 1 by' zv) (hzc : zv.cells.size = 1)
    (hx : Row s.h (aev s x) cs n 1) (hy : aev s y = .sc (.string b)) (hroom : (n + b.size) * by' ≤ 140737488355328) (hmax : n + b.size ≤ 9223372036854775807)
    (hk : ∀ v' h' n', Row h' v' (cs ++ bcells b.data.toList) (n + b.size) 1 → (∀ b o, h' b = some o → b < n') → (∀ b, s.h b ≠ none → blk (aev s x) ≠ some b → h' b = s.h b ∧ blk v' ≠ some b) → K ((AS.mk s.t h' n' s.sz).put dst v')) :
    OpW P ⟨dst, .call { callee := .builtin .append, args := #[x, y], argTypes := #[t, tx] }, ty, pos, after, none⟩ K s := by
  obtain ⟨i, hi, hsz, rfl, hz⟩ := hI.get
  refine OpW_app hx (ys := bcells b.data.toList) (m := b.size) ?_ ?_ (.inr ⟨htx, rfl, b, hy⟩) ht hi hz hsz hzc hroom hmax hd hk
  · rw [hy]
    simp only [asrc, bcells_str]
  · simp [bcells_length]
theorem w_bs0 {t e : TypeId} {z by' : Nat} {zv : Value} (hd : dOk s dst = true) (hu : P.underlying t = some (.slice e)) (hI : Info P e z by' zv)
    (hk : ∀ v' h' n', Row h' v' [] 0 z → (∀ b o, h' b = some o → b < n') → (∀ b, s.h b ≠ none → h' b = s.h b ∧ blk v' ≠ some b) → K ((AS.mk s.t h' n' s.sz).put dst v')) : OpW P ⟨dst, .buildSlice t 0 #[], ty, pos, after, none⟩ K s := by
  obtain ⟨ie, hie, hsz, _, hz⟩ := hI.get
  refine OpW_hl fun hl => OpW_buildSlice0 (z := z) hu hie hd (fun b hb => hk _ _ (b + 1) ⟨by simp, .inr ⟨b, rfl, Heap.set_eq _ _ _⟩⟩ (fun k o hk => ?_) (fun k hk1 => ?_))
  · by_cases hkb : k = b
    · omega
    · rw [Heap.set_ne _ _ _ _ hkb] at hk
      have := hl k o hk
      omega
  · have hkb : k ≠ b := by
      rintro rfl
      rcases Option.eq_none_or_eq_some (s.h k) with e | ⟨o, e⟩
      · exact hk1 e
      · have := hl k o e
        omega
    refine ⟨Heap.set_ne _ _ _ _ hkb, ?_⟩
    simp only [blk, ne_eq, Option.some.injEq]
    exact fun e => hkb e.symm
theorem w_sb {src dt e : TypeId} {u : TypeDesc} {x : Operand} {b : List UInt8} (hd : dOk s dst = true) (hs : P.underlying src = some u) (ht : P.underlying dt = some (.slice e)) (he : P.underlying e = some (.int .u8)) (hx : aev s x = .txt b)
    (hk : ∀ v' h' n', Row h' v' (bcells b) b.length 1 → (∀ b o, h' b = some o → b < n') → (∀ b, s.h b ≠ none → h' b = s.h b ∧ blk v' ≠ some b) → K ((AS.mk s.t h' n' s.sz).put dst v')) : OpW P ⟨dst, .convert src dt x, ty, pos, after, none⟩ K s := by
  refine OpW_hl fun hl => OpW_conv_str_bytes hs ht he hx hd (fun k hk0 => hk _ _ (k + 1) ⟨by simp [bcells_length], .inr ⟨k, rfl, Heap.set_eq _ _ _⟩⟩ (fun q o hq => ?_) (fun q hq => ?_))
  · by_cases hkb : q = k
    · omega
    · rw [Heap.set_ne _ _ _ _ hkb] at hq
      have := hl q o hq
      omega
  · have hkb : q ≠ k := by
      rintro rfl
      rcases Option.eq_none_or_eq_some (s.h q) with e | ⟨o, e⟩
      · exact hq e
      · have := hl q o e
        omega
    refine ⟨Heap.set_ne _ _ _ _ hkb, ?_⟩
    simp only [blk, ne_eq, Option.some.injEq]
    exact fun e => hkb e.symm
theorem w_call {f : FuncId} {fn : Func} {xs : Array Operand} {ts : Array TypeId} {args args' : List AV} {R : AV → Heap → Prop} (hd : dOk s dst = true) (hfn : P.funcs[f]? = some fn) (hb : fn.body.isSome = true) (hname : (fn.name == "runtime.NumGoroutine") = false)
    (ha : xs.toList.map (aev s) = args) (hc : AC P f args' Heap.empty R) (hlen : args.length = args'.length) (hl : ∀ (i : Nat) (a a' : AV), args[i]? = some a → args'[i]? = some a' → Lent s.h a a')
    (hno : ∀ r hr, R r hr → noLst r = true)
    (hk : ∀ r hr n', R r hr → (∀ b o, s.h.merge hr.clean b = some o → b < n') → (∀ b, hr b ≠ none → s.h b = none) → K ((AS.mk s.t (s.h.merge hr.clean) n' s.sz).put dst r)) : OpW P ⟨dst, .call { callee := .value (.func f), args := xs, argTypes := ts }, ty, pos, after, none⟩ K s := by
  refine OpW_call (f := f) (caps := []) rfl hfn hb hname (by rw [List.append_nil]; exact ha) (hc.lend hlen hl hno) hd ?_
  rintro r h' n' ⟨hr, h1, rfl, h2⟩ h3 h4 h5
  exact hk r hr n' h1 h4 h2
theorem w_callf {f : FuncId} {fn : Func} {xs : Array Operand} {ts : Array TypeId} {args : List AV} {R : AV → Heap → Prop} (hd : dOk s dst = true) (hfn : P.funcs[f]? = some fn) (hb : fn.body.isSome = true) (hname : (fn.name == "runtime.NumGoroutine") = false)
    (ha : xs.toList.map (aev s) = args) (hc : AC P f args Heap.empty R)
    (hk : ∀ r hr n', R r hr → (∀ b o, s.h.merge hr b = some o → b < n') → (∀ b, hr b ≠ none → s.h b = none) → K ((AS.mk s.t (s.h.merge hr) n' s.sz).put dst r)) : OpW P ⟨dst, .call { callee := .value (.func f), args := xs, argTypes := ts }, ty, pos, after, none⟩ K s := by
  refine OpW_call (f := f) (caps := []) rfl hfn hb hname (by rw [List.append_nil]; exact ha) (hc.frame s.h) hd ?_
  rintro r h' n' ⟨hr, h1, rfl, h2⟩ h3 h4 h5
  exact hk r hr n' h1 h4 h2

end w
end Go.Proofs.Ytaojoppkkmpieaa.VM
