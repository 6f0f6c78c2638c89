/- Words and rules that the proof uses. -/
import Derived.Test.YtpgimlllchibnaaDoorVtMix2
import Derived.MapKept
namespace Go.Proofs.YtpgimlllchibnaaDoor.VM
open Go Go.RowKit
abbrev MapI := List (List UInt8 × Int)
def ment (p : List UInt8 × Int) : Value × Value := (.string (strB p.1), .int .i64 p.2)
def mcell (M : MapI) : AV := .mp (M.map ment)
def mgetI : MapI → List UInt8 → Int
 | [], _ => 0
 | p :: l, k => if p.1 = k then p.2 else mgetI l k
def mputI : MapI → List UInt8 → Int → MapI
 | [], k, v => [(k, v)]
 | p :: l, k, v => if p.1 = k then (p.1, v) :: l else p :: mputI l k v
theorem encM_inj {a b : List (Value × Value)} (h : encM a = encM b) : a = b := by
 unfold encM at h
 have h2 : a.flatMap (fun p => [p.1, p.2]) = b.flatMap (fun p => [p.1, p.2]) := by
  injection h with h
  simpa using h
 clear h
 induction a generalizing b with
 | nil =>
  cases b with
  | nil => rfl
  | cons p b => simp at h2
 | cons p a ih =>
  cases b with
  | nil => simp at h2
  | cons q b =>
   simp only [List.flatMap_cons, List.cons_append, List.nil_append, List.cons.injEq] at h2
   rw [ih h2.2.2]
   congr 1
   exact Prod.ext h2.1 h2.2.1
theorem ment_key {es : Array MapEntry} {M : MapI} (h : entsM es = M.map ment) : ∀ x ∈ es.toList, MapKept.IsKey .string x.key := by
 intro x hx
 have : (x.key, x.val) ∈ entsM es := List.mem_map.2 ⟨x, hx, rfl⟩
 rw [h] at this
 obtain ⟨p, _, hp⟩ := List.mem_map.1 this
 have : x.key = .string (strB p.1) := (congrArg Prod.fst hp).symm
 rw [this]
 trivial
theorem strB_inj2 {a b : List UInt8} (h : strB a = strB b) : a = b := by
 have := congrArg (fun s : ByteArray => s.data.toList) h
 simpa [strB_data] using this
theorem map_owned {Z : Nat → Prop} {w : World} {b : Nat} {M : MapI} (r : ObjRel Z w b [mcell M]) : ∃ es clock, w.heap[b]? = some (.map es clock) ∧ entsM es = M.map ment := by
 rcases r with ⟨arr, e, lo, hi, hh, hl, hc, hf⟩ | ⟨es, clock, hh, hr⟩
 ·exfalso
  have h0 : 0 < arr.size := hl
  obtain ⟨h1, h2⟩ := hc 0 (mcell M) arr[0] rfl (Array.getElem?_eq_getElem h0)
  generalize arr[0] = v at h1 h2
  unfold mcell at h1
  cases h1
  cases h2
 ·refine ⟨es, clock, hh, ?_⟩
  have := hr (mcell M) rfl
  unfold mcell at this
  generalize hv : encM (entsM es) = v at this
  cases this
  exact encM_inj hv
theorem find_first {d : TypeDesc} {k : Value} (hk : MapKept.IsKey d k) : ∀ (l : List MapEntry) (i : Nat), (∀ x ∈ l, MapKept.IsKey d x.key) →
  (Instr.findNow d k l i = some none ∧ ∀ x ∈ l, x.key ≠ k) ∨ ∃ j e, Instr.findNow d k l i = some (some (i + j, e.val)) ∧ l[j]? = some e ∧ e.key = k ∧ ∀ i', i' < j → ∀ x, l[i']? = some x → x.key ≠ k
 | [], _, _ => .inl ⟨rfl, by simp⟩
 | e :: es, i, h => by
  obtain ⟨r, hr, hiff⟩ := MapKept.sameNow_of_keys hk (h e (.head _))
  cases r with
  | true => exact .inr ⟨0, e, by simp [Instr.findNow, hr], rfl, (hiff.1 rfl).symm, fun i' hi => by omega⟩
  | false =>
   have hne : e.key ≠ k := fun q => by have := hiff.2 q.symm; cases this
   rcases find_first hk es (i + 1) (fun x hx => h x (.tail _ hx)) with ⟨h1, h2⟩ | ⟨j, e', h1, h2, h3, h4⟩
   ·exact .inl ⟨by simp [Instr.findNow, hr, h1], fun x hx => by
     cases hx with
     | head => exact hne
     | tail _ hx => exact h2 x hx⟩
   ·refine .inr ⟨j + 1, e', by simp [Instr.findNow, hr, h1]; omega, by simpa using h2, h3, fun i' hi x hx => ?_⟩
    cases i' with
    | zero => cases hx; exact hne
    | succ i' => exact h4 i' (by omega) x (by simpa using hx)
theorem find_ents {k : List UInt8} : ∀ (l : List MapEntry) (M : MapI), l.map (fun e => (e.key, e.val)) = M.map ment →
  ((∀ x ∈ l, x.key ≠ .string (strB k)) → mgetI M k = 0 ∧ ∀ v, mputI M k v = M ++ [(k, v)]) ∧
  (∀ (j : Nat) (e : MapEntry), l[j]? = some e → e.key = .string (strB k) → (∀ i, i < j → ∀ x, l[i]? = some x → x.key ≠ .string (strB k)) → e.val = .int .i64 (mgetI M k) ∧ ∀ v, (mputI M k v).map ment = (l.modify j fun e => { e with key := .string (strB k), val := .int .i64 v }).map fun e => (e.key, e.val))
 | [], M, h => by
  have : M = [] := List.map_eq_nil_iff.1 h.symm
  subst this
  exact ⟨fun _ => ⟨rfl, fun _ => rfl⟩, fun j e he => by cases he⟩
 | x :: l, M, h => by
  cases M with
  | nil => cases h
  | cons p M =>
   rw [List.map_cons, List.map_cons] at h
   injection h with h1 h2
   have hk : x.key = .string (strB p.1) := congrArg Prod.fst h1
   have hv : x.val = .int .i64 p.2 := congrArg Prod.snd h1
   obtain ⟨ih1, ih2⟩ := find_ents l M h2
   refine ⟨fun hn => ?_, fun j e he hek hb => ?_⟩
   ·have hne : p.1 ≠ k := fun q => hn x (List.mem_cons_self) (by rw [hk, q])
    obtain ⟨g1, g2⟩ := ih1 (fun y hy => hn y (List.mem_cons_of_mem _ hy))
    refine ⟨by rw [mgetI, if_neg hne]; exact g1, fun v => ?_⟩
    rw [mputI, if_neg hne, g2]
    rfl
   ·cases j with
    | zero =>
     cases he
     have : p.1 = k := strB_inj2 (by rw [hk] at hek; injection hek)
     rw [mgetI, if_pos this]
     refine ⟨hv, fun v => ?_⟩
     rw [mputI, if_pos this, List.map_cons, ← h2, List.modify_zero_cons, List.map_cons]
     congr 1
     show (Value.string (strB p.1), Value.int .i64 v) = _
     rw [this]
    | succ j =>
     have hne : p.1 ≠ k := fun q => hb 0 (Nat.succ_pos _) x rfl (by rw [hk, q])
     obtain ⟨g1, g2⟩ := ih2 j e he hek (fun i hi y hy => hb (i + 1) (Nat.succ_lt_succ hi) y hy)
     rw [mgetI, if_neg hne]
     refine ⟨g1, fun v => ?_⟩
     rw [mputI, if_neg hne, List.map_cons, g2, List.modify_succ_cons, List.map_cons]
     congr 1
     exact h1.symm
section run
variable {P : Program} {w : World} {t kt et : TypeId} {r clock : Nat} {es : Array MapEntry} {M : MapI} {k : List UInt8}
theorem run_mget {ie : TypeInfo} (hm : P.underlying t = some (.map kt et)) (hd : P.underlying kt = some .string) (hie : P.info? et = some ie) (hz : ie.zero = some (.int .i64 0)) (hb : w.heap[r]? = some (.map es clock)) (he : entsM es = M.map ment) :
  (Instr.lookup t (.map (some r)) (.string (strB k)) false).run P w = .ok (.int .i64 (mgetI M k)) w := by
 have hk : MapKept.IsKey .string (.string (strB k)) := trivial
 have hti := run_typeInfo (P := P) w hie
 rcases find_first hk es.toList 0 (ment_key he) with ⟨h1, h2⟩ | ⟨j, e, h1, h2, h3, h4⟩
 ·have h5 := ((find_ents (k := k) es.toList M he).1 h2).1
  simp [Instr.lookup, run_underlying hm, MapKept.run_getObj_map hb, MapKept.run_checkKey hd hk, MapKept.run_findKey hd h1, Result.andThen, zeroValue, hti, hz, h5]
 ·have h5 := ((find_ents (k := k) es.toList M he).2 j e h2 h3 h4).1
  simp [Instr.lookup, run_underlying hm, MapKept.run_getObj_map hb, MapKept.run_checkKey hd hk, MapKept.run_findKey hd h1, Result.andThen, h5]
theorem run_mput {v : Int} (hm : P.underlying t = some (.map kt et)) (hd : P.underlying kt = some .string) (hb : w.heap[r]? = some (.map es clock)) (he : entsM es = M.map ment) :
  ∃ es' clock', (Instr.mapUpdate t (.map (some r)) (.string (strB k)) (.int .i64 v)).run P w = .ok () { w with heap := w.heap.setIfInBounds r (.map es' clock') } ∧ entsM es' = (mputI M k v).map ment := by
 have hk : MapKept.IsKey .string (.string (strB k)) := trivial
 rcases find_first hk es.toList 0 (ment_key he) with ⟨h1, h2⟩ | ⟨j, e, h1, h2, h3, h4⟩
 ·have h5 := ((find_ents (k := k) es.toList M he).1 h2).2 v
  refine ⟨es.push ⟨.string (strB k), .int .i64 v, clock⟩, clock + 1, ?_, ?_⟩
  ·simp [Instr.mapUpdate, run_underlying hm, MapKept.run_getObj_map hb, MapKept.run_checkKey hd hk, MapKept.run_findKey hd h1, MapKept.run_setObj_map _ hb, Result.andThen]
  ·rw [h5, List.map_append, ← he]
   unfold entsM
   rw [Array.toList_push, List.map_append]
   rfl
 ·have hj : es[j]? = some e := by simpa using h2
  have h5 := ((find_ents (k := k) es.toList M he).2 j e h2 h3 h4).2 v
  refine ⟨es.modify j (fun e => { e with key := .string (strB k), val := .int .i64 v }), clock, ?_, ?_⟩
  ·simp [Instr.mapUpdate, run_underlying hm, MapKept.run_getObj_map hb, MapKept.run_checkKey hd hk, MapKept.run_findKey hd h1, hj, h3, MapKept.run_keyThatStays hk, MapKept.run_setObj_map _ hb, Result.andThen]
  ·rw [h5]
   unfold entsM
   rw [Array.toList_modify]
end run
section ops
variable {P : Program} {dst : Option Tmp} {ty : TypeId} {pos : String} {after : Array Edge}
theorem newMap {Z : Nat → Prop} {h : Heap} {w : World} (g : Good Z h w) :
  Ext h Z w (h.set w.heap.size (some [mcell []])) Z (w.alloc (.map #[] 0)) ∧ Good Z (h.set w.heap.size (some [mcell []])) (w.alloc (.map #[] 0)) := by
 have hw : (w.alloc (.map #[] 0)).heap = w.heap.push (.map #[] 0) := rfl
 have hold : ∀ b, b < w.heap.size → (w.alloc (.map #[] 0)).heap[b]? = w.heap[b]? := by
  intro b hb
  rw [hw, Array.getElem?_push]
  simp [Nat.ne_of_lt hb]
 have x : Ext h Z w (h.set w.heap.size (some [mcell []])) Z (w.alloc (.map #[] 0)) := by
  refine ⟨rfl, rfl, rfl, by rw [hw]; simp, fun b hb _ => hold b hb, fun b hb => by unfold World.shape?; rw [hold b hb], fun b hb => ?_, fun _ hz => hz, fun _ hz => .inl hz⟩
  by_cases hbe : b = w.heap.size
  ·right; omega
  ·left
   rwa [Heap.set_ne _ _ _ _ hbe] at hb
 refine ⟨x, fun b hb => by rw [hw]; have := g.zb b hb; simp; omega, fun b o hb hz => ?_, fun b o hb => ?_, g.tb.step g x⟩
 ·by_cases hbe : b = w.heap.size
  ·subst hbe
   exact Nat.lt_irrefl _ (g.zb _ hz)
  ·rw [Heap.set_ne _ _ _ _ hbe] at hb
   exact g.hz b o hb hz
 ·by_cases hbe : b = w.heap.size
  ·subst hbe
   rw [Heap.set_eq] at hb
   simp only [Option.some.injEq] at hb
   subst hb
   refine .inr ⟨#[], 0, by rw [hw]; simp, fun a ha => ?_⟩
   cases ha
   exact .mp []
  ·rw [Heap.set_ne _ _ _ _ hbe] at hb
   exact (g.hb b o hb).step g x (hold b (g.lt hb))
theorem OpW_mkmap {K : AS → Prop} {s : AS} {t : TypeId} (hd : dOk s dst = true) (hk : ∀ b, s.n ≤ b → K ((s.new b [mcell []]).put dst (.mref b))) : OpW P ⟨dst, .makeMap t none, ty, pos, after, none⟩ K s := by
 intro Z a w r next Q hn
 obtain ⟨x, g⟩ := newMap r.gd
 have hrun : (execOp a.eval ⟨dst, .makeMap t none, ty, pos, after, none⟩).run P w = .ok (.value (.map (some w.heap.size))) (w.alloc (.map #[] 0)) := by
  simp [execOp, Instr.makeMap, newObj, Sem.run]
 unfold Oper.wp
 rw [hrun]
 have hw : (w.alloc (.map #[] 0)).heap = w.heap.push (.map #[] 0) := rfl
 refine hn _ Z _ _ (hk w.heap.size r.hn) (r.next x g (by rw [hw]; simp) (fun b o hb => ?_) hd (.mref _)) ?_
 ·by_cases hbe : b = w.heap.size
  ·omega
  ·rw [Heap.set_ne _ _ _ _ hbe] at hb
   have := r.gd.lt hb
   omega
 ·have he : ((s.new w.heap.size [mcell []]).put dst (.mref w.heap.size)).h = s.h.set w.heap.size (some [mcell []]) := by cases dst <;> rfl
  rw [he]
  exact x
theorem n_mkmap {s : TS} {t : TypeId} {d : Nat} (b : Nat) (hd : dOk2 s (some d) = true) : MakeD P ⟨some d, .makeMap t none, ty, pos, after, none⟩ s (.c (.mref b)) b [mcell []] := by
 intro m h1 n hm
 refine OpW_hl fun hlt => OpW_mkmap (dOk_can hd) (fun r hr => ?_)
 have hr' : n ≤ r := hr
 have hlt' : ∀ q o, h1 q = some o → q < n := hlt
 refine ⟨r, r + 1, .mref r, hr', ?_, fun q o hq => ?_, rfl, fun m' hm' => by simp only [TV.rn, T1.rn, hm']; exact .same _⟩
 ·rcases Option.eq_none_or_eq_some (h1 r) with e | ⟨o, e⟩
  ·exact e
  ·have := hlt' r o e
   omega
 ·by_cases hqr : q = r
  ·omega
  ·rw [Heap.set_ne _ _ _ _ hqr] at hq
   have := hlt' q o hq
   omega
theorem mref_inv {Z : Nat → Prop} {w : World} {b : Nat} {v : Value} (r : Rel Z w (.mref b) v) : v = .map (some b) := by cases r; rfl
theorem p_mget {s : TS} {t kt et : TypeId} {x y : Operand} {b : Nat} {M : MapI} {k : List UInt8} {z by' : Nat} (hx0 : isConst x = false) (hd : dOk2 s dst = true) (hx : tev s x = .c (.mref b)) (hb : s.h.get b = some (.pure [mcell M])) (hy : tev s y = .c (.p (.txt k)))
  (hm : P.underlying t = some (.map kt et)) (hk : P.underlying kt = some .string) (hI : Info P et z by' (.int .i64 0)) : PureD P ⟨dst, .lookup t x y false, ty, pos, after, none⟩ s (.c (.p (.int (mgetI M k)))) := by
 obtain ⟨ie, hie, _, _, hz⟩ := hI.get
 refine PureD_same fun m h1 n hmm K hK => ?_
 obtain ⟨r, hr, hh⟩ := blk_real hmm hb (by simp [Blk.cells])
 refine OpW_same (dOk_can hd) (fun Z a w q => ?_) (hK (.int (mgetI M k)) (.same _))
 have hxv := aev_rel q x
 have hyv := (aev_les (s := s) (m := m) (h1 := h1) (n := n) y) _ _ _ (aev_rel q y)
 rw [aev_eq hx0, hx] at hxv
 rw [hy] at hyv
 simp only [TV.rn, T1.rn, hr] at hxv hyv
 have hxe := mref_inv hxv
 have hye := hyv.sc_inv
 obtain ⟨es, clock, h2, h3⟩ := map_owned (q.gd.hb r _ hh)
 refine ⟨.int .i64 (mgetI M k), ?_, .sc _ rfl⟩
 have := run_mget (k := k) hm hk hie hz h2 h3
 simp only [execOp, hxe, hye]
 simp [this]
theorem OpW_mput {K : AS → Prop} {s : AS} {t kt et : TypeId} {x y v : Operand} {b : Nat} {M : MapI} {k : List UInt8} {n : Int} (hx : aev s x = .mref b) (hb : s.h b = some [mcell M]) (hy : Les (aev s y) (.txt k)) (hv : Les (aev s v) (.int n))
  (hm : P.underlying t = some (.map kt et)) (hk : P.underlying kt = some .string) (hd : dOk s dst = true) (hK : K ((s.wr b [mcell (mputI M k n)]).put dst (.tup []))) : OpW P ⟨dst, .mapUpdate t x y v, ty, pos, after, none⟩ K s := by
 intro Z a w r next Q hn
 have hxv := aev_rel r x
 rw [hx] at hxv
 have hxe := mref_inv hxv
 have hye := (hy _ _ _ (aev_rel r y)).sc_inv
 have hve := (hv _ _ _ (aev_rel r v)).sc_inv
 obtain ⟨es, clock, h2, h3⟩ := map_owned (r.gd.hb b _ hb)
 obtain ⟨es', clock', hrun0, h5⟩ := run_mput (k := k) (v := n) hm hk h2 h3
 have hrun : (execOp a.eval ⟨dst, .mapUpdate t x y v, ty, pos, after, none⟩).run P w = .ok .skip { w with heap := w.heap.setIfInBounds b (.map es' clock') } := by
  simp only [execOp, hxe, hye, hve]
  simp [hrun0]
 obtain ⟨hs1, hs2⟩ := MapKept.heap_set (o' := .map es' clock') h2
 have hoth : ∀ q, q ≠ b → ({ w with heap := w.heap.setIfInBounds b (.map es' clock') } : World).heap[q]? = w.heap[q]? := fun q hq => hs2 q hq
 have hsame : ({ w with heap := w.heap.setIfInBounds b (.map es' clock') } : World).heap[b]? = some (.map es' clock') := hs1
 have ex : Ext s.h Z w (s.h.set b (some [mcell (mputI M k n)])) Z { w with heap := w.heap.setIfInBounds b (.map es' clock') } := by
  refine ⟨rfl, rfl, rfl, by simp, fun q _ hq => hoth q (fun e => by rw [e, hb] at hq; cases hq), fun q _ => ?_, fun q hq => ?_, fun _ hz => hz, fun _ hz => .inl hz⟩
  ·by_cases hqb : q = b
   ·subst hqb
    unfold World.shape?
    rw [hsame, h2]
   ·unfold World.shape?
    rw [hoth q hqb]
  ·by_cases hqb : q = b
   ·left; rw [hqb, hb]; simp
   ·rw [Heap.set_ne _ _ _ _ hqb] at hq; exact .inl hq
 have gd : Good Z (s.h.set b (some [mcell (mputI M k n)])) { w with heap := w.heap.setIfInBounds b (.map es' clock') } := by
  refine ⟨fun q hq => by have := r.gd.zb q hq; simpa using this, fun q o hq => ?_, fun q o hq => ?_, r.gd.tb.step r.gd ex⟩
  ·by_cases hqb : q = b
   ·subst hqb; exact r.gd.hz q _ hb
   ·rw [Heap.set_ne _ _ _ _ hqb] at hq; exact r.gd.hz q o hq
  ·by_cases hqb : q = b
   ·subst hqb
    rw [Heap.set_eq] at hq
    cases hq
    refine .inr ⟨es', clock', hsame, fun a ha => ?_⟩
    cases ha
    rw [h5]
    exact .mp _
   ·rw [Heap.set_ne _ _ _ _ hqb] at hq
    exact (r.gd.hb q o hq).step r.gd ex (hoth q hqb)
 unfold Oper.wp
 rw [hrun]
 refine hn _ Z _ _ hK (r.next ex gd (by have := r.hn; simpa using this) (r.hl_set hb) hd (.tup [] #[] rfl (fun i c u hc _ => by simp at hc))) ?_
 cases dst <;> exact ex
theorem d_mput {s : TS} {t kt et : TypeId} {x y v : Operand} {b : Nat} {M M' : MapI} {k : List UInt8} {n : Int} (hx0 : isConst x = false) (hd : dOk2 s dst = true) (hx : tev s x = .c (.mref b)) (hb : s.h.get b = some (.pure [mcell M])) (hy : tev s y = .c (.p (.txt k))) (hv : tev s v = .c (.p (.int n)))
  (hm : P.underlying t = some (.map kt et)) (hk : P.underlying kt = some .string) (hM : mputI M k n = M') :
  OpD P ⟨dst, .mapUpdate t x y v, ty, pos, after, none⟩ s ((s.wr b (.pure [mcell M'])).put dst (.c (.p (.tup [])))) := by
 subst hM
 intro m h1 n1 hmm
 obtain ⟨r, hr, hh⟩ := blk_real hmm hb (by simp [Blk.cells])
 refine OpW_mput (b := r) (by rw [aev_eq hx0, hx]; simp only [TV.rn, T1.rn, hr]) hh (by have := aev_les (s := s) (m := m) (h1 := h1) (n := n1) y; rw [hy] at this; exact this) (by have := aev_les (s := s) (m := m) (h1 := h1) (n := n1) v; rw [hv] at this; exact this) hm hk (dOk_can hd) ⟨m, .refl m, ?_⟩
 exact put_fit (s := s.wr b (.pure [mcell (mputI M k n)])) (hmm.write hb hr) (fun _ _ => .same _) (.same _)
end ops
end Go.Proofs.YtpgimlllchibnaaDoor.VM
