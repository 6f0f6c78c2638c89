/- Words and rules that the proof uses. -/
import Derived.Test.YteilidpbnndnpaaDoorVtMore
import Derived.Laws.StructEq
import Derived.ChangeKeysEq
namespace Go.Proofs.YteilidpbnndnpaaDoor.VM
open Go Go.RowKit
section base
variable {P : Program} {t : TypeId}
end base
theorem part_rel1 {P : Program} {Z : Nat → Prop} {w : World} {t : TypeId} {d : TypeDesc} {cs : List AV} {c : AV} {vs : Array Value} {off : Nat} (hu : P.underlying t = some d) (hag : isAggD d = false) (h : Rel Z w (.agg cs) (.agg vs)) (S : Sub cs off [c]) :
  ∃ v, (part t vs off).run P w = .ok v w ∧ Rel Z w c v := by
 obtain ⟨vs', hv, hlen, h1, hr⟩ := h.agg_inv
 cases hv
 have hc := S.one
 have hlt : off < vs.size := by rw [← hlen]; exact (List.getElem?_eq_some_iff.1 hc).1
 exact ⟨vs[off], by simp [part, isAgg_run hu, hag, Array.getElem?_eq_getElem hlt], hr _ _ _ hc (Array.getElem?_eq_getElem hlt)⟩
section ops
variable {P : Program} {s : TS} {dst : Option Tmp} {ty : TypeId} {pos : String} {after : Array Edge}
theorem u_ixa {t e : TypeId} {x y : Operand} {cs : List AV} {c : AV} {d : TypeDesc} {n z by' : Nat} {zv : Value} {k : IntKind} {i : Int} {j : Nat} (hd : dOk2 s dst = true) (hx0 : isConst x = false) (ht : P.underlying t = some (.array n e)) (hI : Info P e z by' zv) (hu : P.underlying e = some d) (hag : isAggD d = false) (hx : tev s x = .c (.p (.agg cs))) (hy : tev s y = .c (.p (.sc (.int k i)))) (hi : i = (j : Int)) (hj : j < n) (S : Sub cs (j * z) [c]) : PureD P ⟨dst, .index t x y, ty, pos, after, none⟩ s (.c (.p c)) := by
 subst hi
 refine PureD_val hd (av := c) (fun _ => .same _) (fun Z ac w r => ?_)
 obtain ⟨m1, h1⟩ := r x _ hx
 obtain ⟨m2, h2⟩ := r y _ hy
 obtain ⟨xs, h3, _, _⟩ := Rel.agg_inv h1
 rw [h3] at h1
 obtain ⟨v, h4, h5⟩ := part_rel1 hu hag h1 S
 refine ⟨v, ?_, h5⟩
 simp only [execOp, h3, Rel.sc_inv h2, Instr.index, asIntOf]
 simp [run_underlying ht, info_run hI.sz, hj, h4]
theorem u_cuta {t e : TypeId} {x : Operand} {b off n z by' : Nat} {zv : Value} {o sub : List AV} (hd : dOk2 s dst = true) (hx0 : isConst x = false) (ht : P.underlying t = some (.array n e)) (hI : Info P e z by' zv) (hx : tev s x = .c (.ptr b off)) (hb : s.h.get b = some (.pure o)) (hne : o ≠ []) (S : Sub o off sub) (hl : sub.length = n * z) : PureD P ⟨dst, .slice t x none none none, ty, pos, after, none⟩ s (.c (.sl b (off + 0 * z) (n - 0) z)) :=
 p_cuta (l := 0) (h := n) hd hx0 ht hI.sz hx hb hne (S.le hl) rfl rfl (Nat.zero_le _) (Nat.le_refl _) (.inl rfl)
theorem sl_cont {m : Nm} {h1 : Heap} {n' : Nat} {x : Operand} {b off n z : Nat} {o sub : List AV} (hm : HM m s.h h1) (hx0 : isConst x = false) (hx : tev s x = .c (.sl b off n z)) (hb : s.h.get b = some (.pure o)) (hne : o ≠ []) (S : Sub o off sub) (hl : sub.length = n * z) : acont (can m s h1 n') (aev (can m s h1 n') x) = some (sub, n) := by
 refine srcT_cont hm hx0 ?_
 rw [srcT_s hx hb (S.le hl) hne (S.take hl)]
theorem u_cbs {src dt e : TypeId} {x : Operand} {bs : List UInt8} {b off : Nat} {o : List AV} (hd : dOk2 s dst = true) (hx0 : isConst x = false) (hs : P.underlying src = some (.slice e)) (he : P.underlying e = some (.int .u8)) (ht : P.underlying dt = some .string) (hx : tev s x = .c (.sl b off bs.length 1)) (hb : s.h.get b = some (.pure o)) (hne : o ≠ []) (S : Sub o off (bcells bs)) : PureD P ⟨dst, .convert src dt x, ty, pos, after, none⟩ s (.c (.p (.txt bs))) :=
 PureD_same fun m h1 n hm K hk => OpW_conv_bytes hs he ht (sl_cont hm hx0 hx hb hne S (bl bs)) (dOk_can hd) (hk _ (.same _))
theorem src_sl {y : Operand} {b off n z : Nat} {o sub : List AV} (h : tev s y = .c (.sl b off n z)) (hb : s.h.get b = some (.pure o)) (hne : o ≠ []) (S : Sub o off sub) (hl : sub.length = n * z) : srcT s (tev s y) = some (sub, n) := srcT_s h hb (S.le hl) hne (S.take hl)
theorem u_cbl {src dt e : TypeId} {x : Operand} {bs : List UInt8} {b off n : Nat} {o : List AV} (hd : dOk2 s dst = true) (hx0 : isConst x = false) (hs : P.underlying src = some (.slice e)) (he : P.underlying e = some (.int .u8)) (ht : P.underlying dt = some .string) (hn : bs.length = n) (hx : tev s x = .c (.sl b (off + 0 * 1) n 1)) (hb : s.h.get b = some (.pure o)) (hne : o ≠ []) (S : Sub o off (bcells bs)) : PureD P ⟨dst, .convert src dt x, ty, pos, after, none⟩ s (.c (.p (.txt bs))) := by
 subst hn
 exact u_cbs hd hx0 hs he ht hx hb hne S
theorem src_sll {α : Type} {l : List α} {y : Operand} {b off n z : Nat} {o sub : List AV} (h : tev s y = .c (.sl b (off + 0 * z) n z)) (hb : s.h.get b = some (.pure o)) (hne : o ≠ []) (S : Sub o off sub) (hl : sub.length = n * z) (hn : l.length = n) : srcT s (tev s y) = some (sub, l.length) := by
 subst hn
 exact src_sl (by rw [h, Nat.zero_mul, Nat.add_zero]) hb hne S hl
end ops
end Go.Proofs.YteilidpbnndnpaaDoor.VM
