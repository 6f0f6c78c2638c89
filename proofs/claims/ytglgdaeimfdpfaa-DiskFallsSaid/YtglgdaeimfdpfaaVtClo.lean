/- Function values that hold something; 'copy'. -/
import Derived.Test.YtglgdaeimfdpfaaVtHeap
namespace Go.Proofs.Ytglgdaeimfdpfaa.VM
open Go Go.RowKit
section ops
variable {P : Program} {ty : TypeId} {pos : String} {after : Array Edge} {dst : Option Tmp}
theorem OpW_mkfn {s : AS} {K : AS → Prop} {f : FuncId} {xs : Array Operand} (hd : dOk s dst = true) (hk : K (s.put dst (.clo f (xs.toList.map (aev s))))) : OpW P ⟨dst, .makeFunc (.func f) #[] xs, ty, pos, after, none⟩ K s :=
  OpW_same hd (fun Z a w r => ⟨.func (.func f) #[] (xs.map a.eval), (by simp [execOp, Instr.makeFunc]), .clo f _ _ (by simp) (fun i c v hc hv => by
    rw [List.getElem?_map] at hc
    rw [Array.getElem?_map] at hv
    obtain ⟨x, hx, rfl⟩ := Option.map_eq_some_iff.1 hc
    have hx2 : xs[i]? = some x := by simpa using hx
    rw [hx2] at hv
    simp only [Option.map_some, Option.some.injEq] at hv
    subst hv
    exact aev_rel r x)⟩) hk
/-- Operands that are single values. -/
def CapsT (s : TS) : List Operand → List T1 → Prop
  | [], [] => True
  | x :: xs, c :: cs => (isConst x = false ∧ tev s x = .c c) ∧ CapsT s xs cs
  | _, _ => False
theorem capsT_eq {s : TS} {m : Nm} {h1 : Heap} {n : Nat} : ∀ {xs : List Operand} {cs : List T1}, CapsT s xs cs → xs.map (aev (can m s h1 n)) = cs.map (T1.rn m)
  | [], [], _ => rfl
  | x :: xs, c :: cs, h => by
    rw [List.map_cons, List.map_cons, capsT_eq h.2, aev_eq h.1.1, h.1.2]
    rfl
  | [], _ :: _, h => h.elim
  | _ :: _, [], h => h.elim
theorem p_mkfn {s : TS} {f : FuncId} {xs : Array Operand} {caps : List T1} (hd : dOk2 s dst = true) (hx : CapsT s xs.toList caps) : PureD P ⟨dst, .makeFunc (.func f) #[] xs, ty, pos, after, none⟩ s (.clo f caps) :=
  PureD_same fun m h1 n hm K hk => OpW_mkfn (dOk_can hd) (hk _ (by rw [capsT_eq hx]; exact .same _))
/-- What a function value holds is lent. -/
def LendCs (s : TS) : List T1 → List AV → Prop
  | [], [] => True
  | c :: cs, a :: gs => LendC s c a ∧ LendCs s cs gs
  | _, _ => False
theorem lendCs_get {s : TS} {m : Nm} {h1 : Heap} (hm : HM m s.h h1) : ∀ {cs : List T1} {gs : List AV}, LendCs s cs gs → cs.length = gs.length ∧ ∀ (i : Nat) (a a' : AV), (cs.map (T1.rn m))[i]? = some a → gs[i]? = some a' → Lent h1 a a'
  | [], [], _ => ⟨rfl, fun i a a' h _ => by simp at h⟩
  | c :: cs, g :: gs, h => by
    obtain ⟨h2, h3⟩ := lendCs_get hm h.2
    refine ⟨by simp [h2], fun i a a' ha ha' => ?_⟩
    cases i with
    | zero =>
      simp only [List.map_cons, List.getElem?_cons_zero, Option.some.injEq] at ha ha'
      subst ha ha'
      exact h.1 m h1 hm
    | succ i => exact h3 i a a' (by simpa using ha) (by simpa using ha')
  | [], _ :: _, h => h.elim
  | _ :: _, [], h => h.elim
theorem lend_clo {s : TS} {x : Operand} {f : FuncId} {caps : List T1} {gs : List AV} (hx0 : isConst x = false) (h : tev s x = .clo f caps) (hc : LendCs s caps gs) : Lend s x (.clo f gs) := by
  intro m h1 n hm
  refine ⟨.clo f (caps.map (T1.rn m)), by rw [aev_eq hx0, h]; exact .same _, ?_⟩
  obtain ⟨h2, h3⟩ := lendCs_get hm hc
  exact .clo f _ _ (by simpa using h2) h3
theorem lend_ptr {s : TS} {x : Operand} {b off : Nat} {cs : List AV} (hx0 : isConst x = false) (h : tev s x = .c (.ptr b off)) (hb : s.h.get b = some (.pure cs)) (hne : cs ≠ []) : Lend s x (.rptr cs off) := by
  intro m h1 n hm
  refine ⟨(T1.ptr b off).rn m, by rw [aev_eq hx0, h]; exact .same _, lendc_ptr hb hne m h1 hm⟩
theorem d_copy {s : TS} {x y : Operand} {t tx e e' : TypeId} {b off n z m k by' : Nat} {o ys o' : List AV} {zv : Value} (hx0 : isConst x = false) (hy0 : isConst y = false) (hd : dOk2 s dst = true) (ht : P.underlying t = some (.slice e)) (htx : P.underlying tx = some (.slice e')) (hI : Info P e z by' zv)
    (hx : tev s x = .c (.sl b off n z)) (hb : s.h.get b = some (.pure o)) (h0 : o ≠ []) (hol : off + n * z ≤ o.length) (hy : srcT s (tev s y) = some (ys, m)) (hyl : ys.length = m * z) (hk : k = min m n) (U : Upd o off (ys.take (k * z)) o') :
    OpD P ⟨dst, .call { callee := .builtin .copy, args := #[x, y], argTypes := #[t, tx] }, ty, pos, after, none⟩ s ((s.wr b (.pure o')).put dst (.c (.p (.sc (.int .i64 k))))) := by
  intro m' h1 n' hm
  obtain ⟨r, hr, hh⟩ := blk_real hm hb (by simpa [Blk.cells] using h0)
  have hcont := srcT_cont (n' := n') hm hy0 hy
  refine OpW_copy (s := can m' s h1 n') (b := r) (off := off) (by rw [aev_eq hx0, hx]; simp only [TV.rn, T1.rn, hr]) hh hol ?_ hyl (.inl ⟨e', htx, hcont⟩) ht hI.sz hk (dOk_can hd) ⟨m', .refl m', ?_⟩
  · have hns : ∀ q, aev (can m' s h1 n') y ≠ .sc (.string q) := by
      intro q hq
      rw [hq] at hcont
      cases hcont
    unfold asrc
    split
    · rename_i q hq
      exact absurd hq (hns q)
    · exact hcont
  · have hu : wCells (Blk.cells m' (.pure o)) off (ys.take (k * z)) = o' := U.2
    rw [hu]
    exact put_fit (s := s.wr b (.pure o')) (hm.write hb hr) (fun _ _ => .same _) (.same _)
/-- A vector whose head is written anew. -/
def vcopy {α : Type} {n : Nat} (v : Vector α n) (l : List α) : Vector α n := ⟨(l.take n ++ v.toList.drop (l.take n).length).toArray, by simp; omega⟩
theorem vcopy_list {α : Type} {n : Nat} (v : Vector α n) (l : List α) : (vcopy v l).toList = l.take n ++ v.toList.drop (l.take n).length := rfl
theorem Upd.vcopy {α : Type} {f : α → AV} {n k : Nat} {v : Vector α n} {l : List α} (hk : k = min l.length n) : Upd (v.toList.map f) 0 ((l.map f).take (k * 1)) ((vcopy v l).toList.map f) := by
  have hl : ((l.map f).take (k * 1)).length = k := by simp; omega
  have ht : (l.take n).length = k := by simp; omega
  have he : (l.map f).take (k * 1) = (l.take n).map f := by
    rw [List.map_take, Nat.mul_one, hk]
    by_cases h : l.length ≤ n
    · rw [List.take_of_length_le (by simp; omega), List.take_of_length_le (by simp; omega)]
    · rw [Nat.min_eq_right (by omega)]
  refine ⟨by rw [hl]; simp; omega, ?_⟩
  unfold wCells
  rw [he, vcopy_list, List.map_append, List.map_drop]
  simp [ht]
  omega
end ops
end Go.Proofs.Ytglgdaeimfdpfaa.VM
