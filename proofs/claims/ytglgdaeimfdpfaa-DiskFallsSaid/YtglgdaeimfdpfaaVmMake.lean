/- The abstract logic: what is built, made, cut, copied; texts and bytes. -/
import Derived.Test.YtglgdaeimfdpfaaVmRows
import Derived.Great.BuildSlice
import Derived.Laws.Slices
import Derived.Laws.OwnMore
namespace Go.Proofs.Ytglgdaeimfdpfaa.VM
open Go Go.RowKit

/-- Parts laid into cells. -/
def afill (place : Nat → Option (Nat × Nat)) (cells : List AV) : List (Nat × List AV) → Option (List AV)
  | [] => some cells
  | (i, xs) :: rest => match place i with
    | none => none
    | some (off, size) => if xs.length = size ∧ off + xs.length ≤ cells.length then afill place (wCells cells off xs) rest else none

def partRel (Z : Nat → Prop) (w : World) (p : Nat × List AV) (q : Nat × Value) : Prop :=
  p.1 = q.1 ∧ p.2.length = q.2.cells.size ∧ ∀ (i : Nat) (c : AV) (u : Value), p.2[i]? = some c → q.2.cells[i]? = some u → Rel Z w c u ∧ u.oneCell' = true

inductive PartsRel (Z : Nat → Prop) (w : World) : List (Nat × List AV) → List (Nat × Value) → Prop where
  | nil : PartsRel Z w [] []
  | cons {p : Nat × List AV} {q : Nat × Value} {ps : List (Nat × List AV)} {qs : List (Nat × Value)} (h : partRel Z w p q) (r : PartsRel Z w ps qs) : PartsRel Z w (p :: ps) (q :: qs)

def cellsRel (Z : Nat → Prop) (w : World) (cs : List AV) (arr : Array Value) : Prop :=
  cs.length = arr.size ∧ ∀ (i : Nat) (c : AV) (u : Value), cs[i]? = some c → arr[i]? = some u → Rel Z w c u ∧ u.oneCell' = true

theorem fold_wArr : ∀ (vs : List Value) (k : Nat) (arr : Array Value) (off : Nat), (vs.zipIdx k).foldl (fun cs (x : Value × Nat) => cs.setIfInBounds (off + x.2) x.1) arr = wArr arr (off + k) vs
  | [], _, _, _ => rfl
  | v :: r, k, arr, off => by
    simp only [List.zipIdx_cons, List.foldl_cons, wArr]
    rw [fold_wArr r (k + 1)]
    rfl

theorem cellsRel.write {Z : Nat → Prop} {w : World} {cs xs : List AV} {arr : Array Value} {vs : List Value} {off : Nat} (h : cellsRel Z w cs arr) (hl : off + xs.length ≤ cs.length) (hx : xs.length = vs.length)
    (hr : ∀ (i : Nat) (c : AV) (u : Value), xs[i]? = some c → vs[i]? = some u → Rel Z w c u ∧ u.oneCell' = true) : cellsRel Z w (wCells cs off xs) (wArr arr off vs) := by
  refine ⟨by rw [wCells_length hl, wArr_size]; exact h.1, fun i c u hc hu => ?_⟩
  by_cases hi : i < off ∨ off + xs.length ≤ i
  · rw [wCells_out hl hi] at hc
    rw [wArr_out vs arr off i (by omega)] at hu
    exact h.2 i c u hc hu
  · obtain ⟨j, rfl⟩ : ∃ j, i = off + j := ⟨i - off, by omega⟩
    have hj : j < xs.length := by omega
    have hj' : j < vs.length := by omega
    rw [wCells_in hl hj] at hc
    rw [wArr_in vs arr off j vs[j] (by have := h.1; omega) (List.getElem?_eq_getElem hj')] at hu
    exact hr j c u hc (by rw [List.getElem?_eq_getElem hj']; exact hu)

theorem fill_rel {Z : Nat → Prop} {w : World} (place : Nat → Option (Nat × Nat)) : ∀ (ps : List (Nat × List AV)) (qs : List (Nat × Value)) (cs cs' : List AV) (arr : Array Value),
    PartsRel Z w ps qs → cellsRel Z w cs arr → afill place cs ps = some cs' → ∃ arr', Instr.fill place arr qs = some arr' ∧ cellsRel Z w cs' arr'
  | [], _, cs, cs', arr, hf, hc, h => by
    cases hf
    simp only [afill, Option.some.injEq] at h
    subst h
    exact ⟨arr, rfl, hc⟩
  | (i, xs) :: ps, _, cs, cs', arr, hf, hc, h => by
    cases hf with
    | @cons _ q _ qs hp hf =>
      obtain ⟨j, v⟩ := q
      obtain ⟨hij, hxl, hxr⟩ := hp
      simp only at hij hxl hxr
      subst hij
      simp only [afill] at h
      cases hpl : place i with
      | none => simp [hpl] at h
      | some os =>
        obtain ⟨off, size⟩ := os
        simp only [hpl] at h
        split at h
        · rename_i hcond
          obtain ⟨hs, hle⟩ := hcond
          have hvl : xs.length = v.cells.toList.length := by simpa using hxl
          obtain ⟨arr', h1, h2⟩ := fill_rel place ps qs _ cs' _ hf (hc.write (vs := v.cells.toList) hle hvl (fun k c u h1 h2 => hxr k c u h1 (by simpa using h2))) h
          refine ⟨arr', ?_, h2⟩
          unfold Instr.fill
          simp only [hpl]
          have hn : (decide (v.cells.size ≠ size) || decide (off + v.cells.size > arr.size)) = false := by
            have := hc.1
            simp
            omega
          rw [if_neg (by simpa using hn)]
          rw [← h1]
          congr 1
          have hz := fold_wArr v.cells.toList 0 arr off
          rw [Nat.add_zero] at hz
          rw [← hz]
          rw [← Array.foldl_toList, Array.toList_zipIdx]
        · cases h

theorem afill_length (place : Nat → Option (Nat × Nat)) : ∀ (ps : List (Nat × List AV)) (cs cs' : List AV), afill place cs ps = some cs' → cs'.length = cs.length
  | [], cs, cs', h => by
    simp only [afill, Option.some.injEq] at h
    rw [h]
  | (i, xs) :: ps, cs, cs', h => by
    simp only [afill] at h
    cases hpl : place i with
    | none => simp [hpl] at h
    | some os =>
      obtain ⟨off, size⟩ := os
      simp only [hpl] at h
      split at h
      · rename_i hcond
        rw [afill_length place ps _ _ h, wCells_length hcond.2]
      · cases h

/-- The parts of a literal. -/
def aparts (s : AS) : List (Nat × Operand) → Option (List (Nat × List AV))
  | [] => some []
  | (i, x) :: r => match acells (aev s x), aparts s r with
    | some cs, some ps => some ((i, cs) :: ps)
    | _, _ => none

theorem aparts_rel {Z : Nat → Prop} {s : AS} {a : Act} {w : World} (r : SR Z s a w) : ∀ (l : List (Nat × Operand)) (ps : List (Nat × List AV)), aparts s l = some ps → PartsRel Z w ps (l.map fun p => (p.1, a.eval p.2))
  | [], ps, h => by
    simp only [aparts, Option.some.injEq] at h
    subst h
    exact .nil
  | (i, x) :: l, ps, h => by
    simp only [aparts] at h
    split at h
    · rename_i cs ps' h1 h2
      simp only [Option.some.injEq] at h
      subst h
      obtain ⟨hl, hr⟩ := acells_rel h1 (aev_rel r x)
      exact .cons ⟨rfl, hl, hr⟩ (aparts_rel r l ps' h2)
    · cases h

theorem zero_rel {Z : Nat → Prop} {w : World} {z : Value} (h1 : z.cells.all (·.oneCell') = true) : cellsRel Z w (z.cells.toList.map cAV) z.cells := by
  refine ⟨by simp, fun j c u hc hu => ?_⟩
  rw [List.getElem?_map] at hc
  have hu' : z.cells.toList[j]? = some u := by simpa using hu
  rw [hu'] at hc
  simp only [Option.map_some, Option.some.injEq] at hc
  subst hc
  refine ⟨cAV_rel Z w u, ?_⟩
  rw [Array.all_eq_true] at h1
  obtain ⟨hj, he⟩ := Array.getElem?_eq_some_iff.1 hu
  rw [← he]
  exact h1 j hj

theorem cellsRel.agg {Z : Nat → Prop} {w : World} {cs : List AV} {arr : Array Value} (h : cellsRel Z w cs arr) : Rel Z w (.agg cs) (.agg arr) := by
  refine .agg cs arr h.1 (fun v hv => ?_) (fun i c u hc hu => (h.2 i c u hc hu).1)
  obtain ⟨i, hi, he⟩ := Array.getElem_of_mem hv
  have hlt : i < cs.length := by rw [h.1]; exact hi
  exact (h.2 i _ v (List.getElem?_eq_getElem hlt) (by rw [Array.getElem?_eq_getElem hi, he])).2

/-- Where a struct's fields lie. -/
def placesOf (P : Program) (t : TypeId) : Option (List (Nat × Nat)) := match P.underlying t with
  | some (.struct fields) => fields.toList.mapM (fun f => (P.info? f.type).map fun i => (f.offset, i.size))
  | _ => none

/-- Zeros, one element behind the other. -/
def azeros (n : Nat) (zs : List AV) : List AV := (List.replicate n zs).flatten

theorem azeros_length (n : Nat) (zs : List AV) : (azeros n zs).length = n * zs.length := by
  simp [azeros]

theorem azeros_get : ∀ (n : Nat) (zs : List AV) (i : Nat), i < n * zs.length → (azeros n zs)[i]? = zs[i % zs.length]?
  | 0, zs, i, h => by simp at h
  | n + 1, zs, i, h => by
    have hs : azeros (n + 1) zs = zs ++ azeros n zs := by simp [azeros, List.replicate_succ]
    rw [hs]
    by_cases hi : i < zs.length
    · rw [List.getElem?_append_left hi, Nat.mod_eq_of_lt hi]
    · have hpos : 0 < zs.length := by
        rcases Nat.eq_zero_or_pos zs.length with h0 | h0
        · rw [h0, Nat.mul_zero] at h; omega
        · exact h0
      rw [List.getElem?_append_right (by omega), azeros_get n zs (i - zs.length) (by rw [Nat.add_mul, Nat.one_mul] at h; omega)]
      congr 1
      rw [Nat.mod_eq_sub_mod (by omega : i ≥ zs.length)]

theorem made_rel {Z : Nat → Prop} {w : World} {z : Value} {n : Nat} (h1 : z.cells.all (·.oneCell') = true) : cellsRel Z w (azeros n (z.cells.toList.map cAV)) (madeCells z.cells (n * z.cells.size)) := by
  have hz := zero_rel (Z := Z) (w := w) h1
  refine ⟨by rw [azeros_length, size_madeCells]; simp, fun i c u hc hu => ?_⟩
  have hi : i < n * z.cells.size := by
    have := (Array.getElem?_eq_some_iff.1 hu).1
    rwa [size_madeCells] at this
  have hpos : 0 < z.cells.size := by
    rcases Nat.eq_zero_or_pos z.cells.size with h0 | h0
    · rw [h0, Nat.mul_zero] at hi; omega
    · exact h0
  rw [azeros_get _ _ _ (by simpa using hi)] at hc
  have hlt : i % z.cells.size < z.cells.size := Nat.mod_lt _ hpos
  refine hz.2 (i % z.cells.size) c u (by simpa using hc) ?_
  unfold madeCells at hu
  rw [Array.getElem?_map, Array.getElem?_range] at hu
  simp only [hi, if_true, Option.map_some, Option.some.injEq] at hu
  rw [Array.getElem?_eq_getElem hlt, ← hu, getElem!_pos z.cells _ hlt]

section ops
variable {P : Program} {K : AS → Prop} {s : AS} {dst : Option Tmp} {ty : TypeId} {pos : String} {after : Array Edge}

theorem OpW_build {t : TypeId} {parts : Array (Nat × Operand)} {it : TypeInfo} {z : Value} {pl : List (Nat × Nat)} {ps : List (Nat × List AV)} {cs : List AV} (hi : P.info? t = some it) (hz : it.zero = some z) (h1 : z.cells.all (·.oneCell') = true)
    (hpl : placesOf P t = some pl) (hp : aparts s parts.toList = some ps) (hf : afill (fun i => pl[i]?) (z.cells.toList.map cAV) ps = some cs) (hd : dOk s dst = true)
    (hk : K (s.put dst (.agg cs))) : OpW P ⟨dst, .build t parts, ty, pos, after, none⟩ K s := by
  refine OpW_same hd (fun Z a w r => ?_) hk
  obtain ⟨arr, hfill, hrel⟩ := fill_rel (fun i => pl[i]?) ps _ _ cs z.cells (aparts_rel r _ _ hp) (zero_rel h1) hf
  refine ⟨.agg arr, ?_, hrel.agg⟩
  have hb : P.built t (parts.map fun (x : Nat × Operand) => (x.1, a.eval x.2)).toList = some arr := by
    unfold Program.built
    unfold placesOf at hpl
    rw [hi]
    cases hu : P.underlying t with
    | none => simp [hu] at hpl
    | some d =>
      cases d <;> simp only [hu] at hpl <;> try (cases hpl; done)
      rename_i fields
      simp only [hz]
      rw [hpl]
      simp only [Array.toList_map]
      rw [← hfill]
      congr 1
      funext k
      simp
  have hrun := run_build (P := P) w t _ arr hb
  simp only [execOp]
  rw [Sem.run_bind, hrun]
  rfl

/-- An array by its parts. -/
theorem OpW_build_arr {t e : TypeId} {n : Nat} {parts : Array (Nat × Operand)} {it ie : TypeInfo} {z : Value} {ps : List (Nat × List AV)} {cs : List AV} (hi : P.info? t = some it) (hz : it.zero = some z) (h1 : z.cells.all (·.oneCell') = true)
    (hu : P.underlying t = some (.array n e)) (hie : P.info? e = some ie) (hp : aparts s parts.toList = some ps) (hf : afill (fun i => some (i * ie.size, ie.size)) (z.cells.toList.map cAV) ps = some cs) (hd : dOk s dst = true)
    (hk : K (s.put dst (.agg cs))) : OpW P ⟨dst, .build t parts, ty, pos, after, none⟩ K s := by
  refine OpW_same hd (fun Z a w r => ?_) hk
  obtain ⟨arr, hfill, hrel⟩ := fill_rel _ ps _ _ cs z.cells (aparts_rel r _ _ hp) (zero_rel h1) hf
  refine ⟨.agg arr, ?_, hrel.agg⟩
  have hb : P.built t (parts.map fun (x : Nat × Operand) => (x.1, a.eval x.2)).toList = some arr := by
    unfold Program.built
    simp only [hi, hu, hz, hie, Array.toList_map]
    exact hfill
  have hrun := run_build (P := P) w t _ arr hb
  simp only [execOp]
  rw [Sem.run_bind, hrun]
  rfl

theorem shape_push {w w' : World} {arr : Array Value} {e : Nat} {fz : Nat × Nat} (h : w'.heap = w.heap.push (.cells arr e fz)) : w'.shape? w.heap.size = some (e, arr.size) := by
  unfold World.shape?
  rw [h]
  simp

/-- A slice literal. -/
theorem OpW_buildSlice {t e : TypeId} {len z : Nat} {parts : Array (Nat × Operand)} {ie : TypeInfo} {zv : Value} {ps : List (Nat × List AV)} {cs : List AV} (hu : P.underlying t = some (.slice e)) (hie : P.info? e = some ie) (hz : ie.zero = some zv) (hsz : ie.size = z)
    (hzc : zv.cells.size = z) (h1 : zv.cells.all (·.oneCell') = true) (hpos : len * z ≠ 0) (hsmall : len * z ≤ 16777216) (hp : aparts s parts.toList = some ps) (hf : afill (fun i => some (i * z, z)) (azeros len (zv.cells.toList.map cAV)) ps = some cs)
    (hd : dOk s dst = true) (hk : ∀ b, s.n ≤ b → K ((s.new b cs).put dst (.sl b 0 len z))) : OpW P ⟨dst, .buildSlice t len parts, ty, pos, after, none⟩ K s := by
  refine OpW_new hd (fun Z a w r => ?_) hk
  obtain ⟨arr, hfill, hrel⟩ := fill_rel _ ps _ _ cs _ (aparts_rel r _ _ hp) (made_rel (n := len) h1) hf
  have hrun := run_buildSlice (P := P) w t e len (parts.map fun (x : Nat × Operand) => (x.1, a.eval x.2)) arr ie zv hu hie hz (by rw [hsz]; omega) (by rw [hsz]; exact hpos)
    (by rw [hsz, Array.toList_map, ← hzc]; rw [← hzc] at hfill; exact hfill)
  have hcl : cs.length = len * z := by
    have h2 := afill_length _ ps _ _ hf
    rw [h2, azeros_length]
    simp [hzc]
  refine ⟨.slice (some ⟨w.heap.size, 0, none⟩) len len, w.alloc (.cells arr e), arr, e, 0, 0, ?_, by rw [hrel.1]; exact Nat.le_refl _, hrel.2, .inl (Nat.le_refl _), rfl, rfl, rfl, rfl, ?_⟩
  · simp only [execOp]
    rw [Sem.run_bind, hrun]
    rfl
  · exact .sl _ 0 len z len e arr.size (Nat.le_refl _) (shape_push (w := w) (fz := (0, 0)) rfl) (by rw [← hrel.1, hcl]; omega)

theorem OpW_buildSlice0 {t e : TypeId} {z : Nat} {ie : TypeInfo} (hu : P.underlying t = some (.slice e)) (hie : P.info? e = some ie)
    (hd : dOk s dst = true) (hk : ∀ b, s.n ≤ b → K ((s.new b []).put dst (.sl b 0 0 z))) : OpW P ⟨dst, .buildSlice t 0 #[], ty, pos, after, none⟩ K s := by
  refine OpW_new hd (fun Z a w r => ?_) hk
  refine ⟨.slice (some ⟨w.heap.size, 0, none⟩) 0 0, w.alloc (.cells #[] e), #[], e, 0, 0, ?_, by simp, fun i c u hc _ => by simp at hc, .inl (Nat.le_refl _), rfl, rfl, rfl, rfl, .sl _ 0 0 z 0 e 0 (Nat.le_refl _) (shape_push (w := w) (arr := #[]) (fz := (0, 0)) rfl) (by omega)⟩
  simp [execOp, Instr.buildSlice, run_underlying hu, sizeOf, typeInfo, hie, Instr.fill, newRow, Array.range_zero']

/-- 'make([]T, n)'. -/
theorem OpW_make {t e : TypeId} {x y : Operand} {n z : Nat} {kx ky : IntKind} {ie : TypeInfo} {zv : Value} (hx : aev s x = .sc (.int kx n)) (hy : aev s y = .sc (.int ky n)) (hu : P.underlying t = some (.slice e)) (hie : P.info? e = some ie) (hz : ie.zero = some zv) (hsz : ie.size = z)
    (hzc : zv.cells.size = z) (h1 : zv.cells.all (·.oneCell') = true) (hb : ie.bytes * n ≤ 281474976710656) (hm : n ≤ 9223372036854775807) (hd : dOk s dst = true)
    (hk : ∀ b, s.n ≤ b → K ((s.new b (azeros n (zv.cells.toList.map cAV))).put dst (.sl b 0 n z))) : OpW P ⟨dst, .makeSlice t x y, ty, pos, after, none⟩ K s := by
  refine OpW_new hd (fun Z a w r => ?_) hk
  have hxe := aev_rel r x
  have hye := aev_rel r y
  rw [hx] at hxe
  rw [hy] at hye
  have hrun := run_make (P := P) w t e ie zv hu hie hz kx ky n n (by omega) (Int.le_refl _) (by have : ((ie.bytes * n : Nat) : Int) ≤ 281474976710656 := (by omega); rwa [Int.natCast_mul] at this) (by omega)
  rw [Int.toNat_natCast, hsz] at hrun
  have hrel := made_rel (Z := Z) (w := w) (n := n) h1
  rw [hzc] at hrel
  refine ⟨.slice (some ⟨w.heap.size, 0, none⟩) n n, w.alloc (.cells (madeCells zv.cells (n * z)) e), _, e, 0, 0, ?_, by rw [hrel.1]; exact Nat.le_refl _, hrel.2, .inl (Nat.le_refl _), rfl, rfl, rfl, rfl, ?_⟩
  · simp only [execOp, hxe.sc_inv, hye.sc_inv]
    rw [Sem.run_bind, hrun]
    rfl
  · exact .sl _ 0 n z n e (madeCells zv.cells (n * z)).size (Nat.le_refl _) (shape_push (w := w) (fz := (0, 0)) rfl) (by rw [size_madeCells]; omega)

variable {t tx e : TypeId} {i : TypeInfo} {zv : Value} {x y : Operand}

/-- 'append' to a nil slice. -/
theorem OpW_append_nil {z m : Nat} {ys : List AV} (hx : aev s x = .nil) (hy : asrc s (aev s y) = some (ys, m)) (hyl : ys.length = m * z) (hm0 : 0 < m)
    (hk2 : (∃ e', P.underlying tx = some (.slice e') ∧ acont s (aev s y) = some (ys, m)) ∨ (P.underlying tx = some .string ∧ z = 1 ∧ ∃ b, aev s y = .sc (.string b)))
    (ht : P.underlying t = some (.slice e)) (hi : P.info? e = some i) (hz : i.zero = some zv) (hsz : i.size = z) (hzc : zv.cells.size = z) (hroom : m * i.bytes ≤ 140737488355328) (hmax : m ≤ 9223372036854775807) (hd : dOk s dst = true)
    (hk : ∀ b, s.n ≤ b → K ((s.new b ys).put dst (.sl b 0 m z))) :
    OpW P ⟨dst, .call { callee := .builtin .append, args := #[x, y], argTypes := #[t, tx] }, ty, pos, after, none⟩ K s := by
  refine OpW_new hd (fun Z a w r => ?_) hk
  have hxv := aev_rel r x
  rw [hx] at hxv
  have hxe : a.eval x = .slice none 0 0 := by
    generalize hu : a.eval x = u at hxv
    cases hxv
    rfl
  obtain ⟨news, hsrc, hnl, hnr, _⟩ := src_any (P := P) r.gd hy (aev_rel r y) hk2 hyl
  have hfit : Builtin.nextslicecap (0 + m) 0 * i.bytes ≤ 281474976710656 := growslice_fits (by omega) (by rw [Nat.zero_add]; exact hroom)
  have hrun := run_append_grow_src (P := P) w t tx ty e i zv ht hi hz none 0 0 [] (run_firstCells_none w.drew i.size 0 0 0) (a.eval y) m news (by rw [hsz]; exact hsrc) (by omega) (by omega) hfit
  rw [Nat.zero_add, List.nil_append] at hrun
  have hgc : m ≤ grownCap w m 0 e := by unfold grownCap Question.cut; exact Nat.le_add_right _ _
  refine ⟨.slice (some ⟨w.heap.size, 0, none⟩) m (grownCap w m 0 e), w.drew.alloc (.cells (news.toArray ++ Builtin.zeroCells zv.cells (grownCap w m 0 e - m)) e), news.toArray ++ Builtin.zeroCells zv.cells (grownCap w m 0 e - m), e, 0, 0, ?_, by simp; omega, fun j c u hc hu => ?_, .inl (Nat.le_refl _), rfl, rfl, rfl, rfl, ?_⟩
  · simp only [execOp, resolve, invoke, builtin]
    simp [hxe, hrun]
  · have hlt := (List.getElem?_eq_some_iff.1 hc).1
    rw [Array.getElem?_append_left (by simp; omega)] at hu
    exact hnr j c u hc (by simpa using hu)
  · refine .sl _ 0 m z (grownCap w m 0 e) e (news.toArray ++ Builtin.zeroCells zv.cells (grownCap w m 0 e - m)).size hgc (shape_push (w := w) (fz := (0, 0)) rfl) ?_
    rw [Array.size_append, size_zeroCells, hzc]
    have h2 : news.toArray.size = m * z := by simp [hnl]
    rw [h2, ← Nat.add_mul, Nat.zero_add]
    exact Nat.mul_le_mul_right _ (by omega)

theorem OpW_append_nil0 {z : Nat} {ys : List AV} (hx : aev s x = .nil) (hy : asrc s (aev s y) = some (ys, 0)) (hyl : ys.length = 0 * z)
    (hk2 : (∃ e', P.underlying tx = some (.slice e') ∧ acont s (aev s y) = some (ys, 0)) ∨ (P.underlying tx = some .string ∧ z = 1 ∧ ∃ b, aev s y = .sc (.string b)))
    (ht : P.underlying t = some (.slice e)) (hi : P.info? e = some i) (hsz : i.size = z) (hd : dOk s dst = true)
    (hk : K (s.put dst .nil)) :
    OpW P ⟨dst, .call { callee := .builtin .append, args := #[x, y], argTypes := #[t, tx] }, ty, pos, after, none⟩ K s := by
  refine OpW_same hd (fun Z a w r => ⟨.slice none 0 0, ?_, .nil⟩) hk
  have hxv := aev_rel r x
  rw [hx] at hxv
  have hxe : a.eval x = .slice none 0 0 := by
    generalize hu : a.eval x = u at hxv
    cases hxv
    rfl
  obtain ⟨news, hsrc, hnl, hnr, _⟩ := src_any (P := P) r.gd hy (aev_rel r y) hk2 hyl
  have hnil : news = [] := by
    rw [Nat.zero_mul] at hnl
    exact List.length_eq_zero_iff.1 hnl
  subst hnil
  have hc := hsrc.cells
  rcases hsrc.kind with ⟨e', hk⟩ | hk <;>
    simp [execOp, resolve, invoke, builtin, hxe, Builtin.append_, run_underlying ht, run_underlying hk, sizeOf, typeInfo, hi, hsrc.len, hsz, hc]
end ops
end Go.Proofs.Ytglgdaeimfdpfaa.VM
