/- The abstract logic: regions that draw their order. -/
import Derived.Test.YtglgdaeimfdpfaaVmData
import Derived.Orders
namespace Go.Proofs.Ytglgdaeimfdpfaa.VM
open Go Go.RowKit

def FitsEq (s : AS) : List (Nat × AV) → Prop
  | [] => True
  | (k, v) :: l => s.t k = v ∧ FitsEq s l

theorem FitsEq.fits {s : AS} : ∀ {l : List (Nat × AV)}, FitsEq s l → Fits s l
  | [], _ => trivial
  | (k, v) :: l, h => ⟨by rw [h.1]; exact .same _, FitsEq.fits h.2⟩

theorem wp_put {P : Program} {o : Oper} {a : Act} {w : World} {K K' : Act → World → Prop} {Q : Go.Exit → Act → World → Prop}
    (h : ∀ v w', K (a.put o.dst v) w' → K' (a.put o.dst v) w') (hd : ∀ d w', ¬ K ({ a with defers := d :: a.defers }.put o.dst undef) w') (hh : o.wp P a w K Q) : o.wp P a w K' Q := by
  unfold Oper.wp at *
  generalize (execOp a.eval o).run P w = r at *
  cases r with
  | ok n w' =>
    cases n <;> simp only [Oper.upon] at hh ⊢ <;>
      first
        | exact absurd hh (hd _ _)
        | exact h _ _ hh
        | exact Calls.mono hh (fun e w'' he => by cases e <;> first | exact h _ _ he | exact he)
        | exact Rows.mono hh (fun _ _ he => h _ _ he)
  | halt x w' => cases x <;> simp only [Oper.upon] at hh ⊢ <;> exact hh

/-- An operation at a state that tells more: what it doesn't write stays. -/
theorem OpW_frame {P : Program} {o : Oper} {l : List (Nat × AV)} {d : Nat} {s : AS} {K0 K : AS → Prop} (hf : Fits s l) (hd : o.dst = some d) (h : OpW P o K0 (St l s.h s.n s.sz))
    (hK : ∀ s', K0 s' → ∃ v h' n', s' = (AS.mk (assoc l) h' n' s.sz).put (some d) v ∧ K ((AS.mk s.t h' n' s.sz).put (some d) v)) : OpW P o K s := by
  intro Z a w r next Q hn
  have r0 : SR Z (St l s.h s.n s.sz) a w := ⟨fun t => (hf.get t).rel (r.tm t), r.ts, r.df, r.gd, r.hn, r.hl⟩
  refine wp_put ?_ ?_ (h Z a w r0 (fun a' w' => ∃ s' Z', K0 s' ∧ SR Z' s' a' w' ∧ Ext s.h Z w s'.h Z' w') Q (fun s' Z' a' w' k r' x => ⟨s', Z', k, r', x⟩))
  · rintro v w' ⟨s', Z', k, r', x⟩
    obtain ⟨v', h', n', rfl, hk⟩ := hK s' k
    refine hn _ Z' _ w' hk ⟨fun t => ?_, ?_, r'.df, r'.gd, r'.hn, r'.hl⟩ x
    · by_cases ht : t = d
      · subst ht
        have := r'.tm t
        simpa [AS.put, AS.set] using this
      · have h1 := (r.tm t).step r.gd x
        have h2 : ((AS.mk s.t h' n' s.sz).put (some d) v').t t = s.t t := by simp [AS.put, AS.set, ht]
        have h3 : (a.put o.dst v).tmps.getD t undef = a.tmps.getD t undef := by
          rw [hd]
          simp [Act.put, Array.getD_eq_getD_getElem?, Array.getElem?_setIfInBounds, Ne.symm ht]
        rw [h2, h3]
        exact h1
    · have := r'.ts
      exact this
  · rintro dd w' ⟨s', Z', k, r', x⟩
    have := r'.df
    cases hod : o.dst <;> simp [hod, Act.put] at this

/-- Operations in any order, abstractly. -/
def AnyW (P : Program) (ops : Array Oper) (K : AS → Prop) (fuel : Nat) (listed : Array Bool) (s : AS) : Prop :=
  ∀ Z a w, SR Z s a w → ∀ (Q : Go.Exit → Act → World → Prop), (∀ s' Z' a' w', K s' → SR Z' s' a' w' → Ext s.h Z w s'.h Z' w' → Q .normal a' w') → wpAny P .any ops Q fuel listed a w

theorem AnyW_of_inv {P : Program} {ops : Array Oper} {K : AS → Prop} (J : Array Bool → AS → Prop)
    (hstep : ∀ listed s i o, J listed s → i ∈ Region.ready .any ops listed → ops[i]? = some o → o.guard = none ∧ OpW P o (J (listed.setIfInBounds i true)) s)
    (hend : ∀ listed s, J listed s → Region.ready .any ops listed = [] → K s) :
    ∀ (fuel : Nat) (listed : Array Bool) (s : AS), listed.size = ops.size → ops.size ≤ fuel + listed.toList.count true → J listed s → AnyW P ops K fuel listed s := by
  have rd : ∀ listed i, i ∈ Region.ready .any ops listed → i < ops.size ∧ listed.getD i true = false := by
    intro listed i hi
    simp only [Region.ready, List.mem_filter, List.mem_range, Bool.and_eq_true, Bool.not_eq_true'] at hi
    exact ⟨hi.1, hi.2.1⟩
  intro fuel
  induction fuel with
  | zero =>
    intro listed s hsz hc hJ Z a w r Q hq
    have hnil : Region.ready .any ops listed = [] := by
      apply List.eq_nil_iff_forall_not_mem.2
      intro i hi
      obtain ⟨h1, h2⟩ := rd listed i hi
      have hlt : i < listed.size := by omega
      have h3 : listed[i] = false := by simpa [Array.getD_eq_getD_getElem?, Array.getElem?_eq_getElem hlt] using h2
      have hle : listed.toList.count true ≤ listed.toList.length := List.count_le_length
      have hll : listed.toList.length = ops.size := by simp [hsz]
      have heq : listed.toList.count true = listed.toList.length := Nat.le_antisymm hle (by rw [hll]; omega)
      have hall := List.count_eq_length.1 heq
      have := hall listed[i] (by simp)
      rw [h3] at this
      cases this
    exact ⟨hnil, hq s Z a w (hend listed s hJ hnil) r (Ext.refl _ _ _)⟩
  | succ fuel ih =>
    intro listed s hsz hc hJ Z a w r Q hq
    refine ⟨fun hnil => hq s Z a w (hend listed s hJ hnil) r (Ext.refl _ _ _), fun i hi => ?_⟩
    obtain ⟨h1, h2⟩ := rd listed i hi
    have hlt : i < listed.size := by omega
    have h3 : listed[i] = false := by simpa [Array.getD_eq_getD_getElem?, Array.getElem?_eq_getElem hlt] using h2
    have ho : ops[i]? = some ops[i] := Array.getElem?_eq_getElem h1
    obtain ⟨hg, hop⟩ := hstep listed s i ops[i] hJ hi ho
    unfold wpOp
    simp only [ho, Region.wanted, hg, if_true]
    refine .inl (hop Z a w r _ _ fun s' Z' a' w' k r' x => ?_)
    refine ih (listed.setIfInBounds i true) s' (by simp [hsz]) ?_ k Z' a' w' r' Q (fun s2 Z2 a2 w2 k2 r2 x2 => hq s2 Z2 a2 w2 k2 r2 (x.trans x2))
    have hcount : (listed.setIfInBounds i true).toList.count true = listed.toList.count true + 1 := by
      rw [Array.toList_setIfInBounds, List.count_set (by simpa using hlt)]
      simp [h3]
    omega

theorem AW_any {P : Program} {id : Nat} {ops : Array Oper} {Q : Go.Exit → AS → Prop} {s : AS} (hm : P.follows .mixedOrders = true) (h : AnyW P ops (fun s' => ∃ l, Fits s' l ∧ Q .normal (St l s'.h s'.n s'.sz)) ops.size (Array.replicate ops.size false) s) : AW P (.region id ops true) Q s := by
  intro Z a w r
  refine wp_region_any hm ?_
  have rd : SR Z s a { w with drawn := w.drawn + 1 } := r.drew
  refine h Z a _ rd _ ?_
  rintro s' Z' a' w' ⟨l, hf, hq⟩ r' x
  exact ⟨_, Z', hq, ⟨fun t => (hf.get t).rel (r'.tm t), r'.ts, r'.df, r'.gd, r'.hn, r'.hl⟩, ⟨x.os, x.tape, x.output, x.size, x.keep, x.shp, x.own, x.zz, x.zf⟩⟩

/-! ### By what each operation reads -/
def waitB (ops : Array Oper) (j i : Nat) : Bool := match ops[j]? with
  | some o => o.after.any fun e => Region.binds .any e && e.on == i
  | none => false
def dstAt (ops : Array Oper) (j : Nat) : Option Nat := (ops[j]?).bind (·.dst)
def upd {α : Type} (f : Nat → α) (i : Nat) (v : α) : Nat → α := fun k => if k = i then v else f k
def drawV (shape : Nat → Option Nat) (vals e : Nat → AV) (j : Nat) : AV := match shape j with
  | none => vals j
  | some k => e k
def drawL (shape : Nat → Option Nat) (vals e : Nat → AV) (base : List (Nat × AV)) : List (Nat × Option Nat) → List (Nat × AV)
  | [] => []
  | (u, none) :: r => (u, assoc base u) :: drawL shape vals e base r
  | (u, some j) :: r => (u, drawV shape vals e j) :: drawL shape vals e base r

def drawB (ops : Array Oper) (shape : Nat → Option Nat) (rd : Nat → List (Nat × Option Nat)) (fin : List (Nat × Option Nat)) (base : List Nat) : Bool :=
  ((List.range ops.size).all fun i => match ops[i]? with
    | none => false
    | some o => o.guard.isNone && o.dst.isSome && (o.after.all fun e => !Region.binds .any e || decide (e.on < i)) &&
      ((List.range ops.size).all fun j => decide (j = i) || decide (dstAt ops j ≠ o.dst)) &&
      (match shape i with | none => true | some k => decide (k = i) || waitB ops i k) &&
      ((rd i).all fun p => match p.2 with
        | some j => waitB ops i j && decide (dstAt ops j = some p.1)
        | none => base.contains p.1 && (List.range ops.size).all fun j => decide (dstAt ops j ≠ some p.1) || decide (j = i) || waitB ops j i)) &&
  fin.all fun p => match p.2 with
    | some j => decide (j < ops.size) && decide (dstAt ops j = some p.1)
    | none => base.contains p.1 && (List.range ops.size).all fun j => decide (dstAt ops j ≠ some p.1)

def AllOps (C : Nat → Oper → Prop) : Nat → List Oper → Prop
  | _, [] => True
  | i, o :: r => C i o ∧ AllOps C (i + 1) r

theorem AllOps.get {C : Nat → Oper → Prop} : ∀ (l : List Oper) (k : Nat), AllOps C k l → ∀ (i : Nat) (o : Oper), l[i]? = some o → C (k + i) o := by
  intro l
  induction l with
  | nil => intro k _ i o ho; simp at ho
  | cons x l ih =>
    intro k h i o ho
    cases i with
    | zero =>
      simp only [List.getElem?_cons_zero, Option.some.injEq] at ho
      subst ho
      exact h.1
    | succ i =>
      have := ih (k + 1) h.2 i o (by simpa using ho)
      rwa [show k + 1 + i = k + (i + 1) by omega] at this

theorem a_nil {C : Nat → Oper → Prop} {i : Nat} : AllOps C i [] := trivial
theorem a_op {C : Nat → Oper → Prop} {i : Nat} {o : Oper} {r : List Oper} (h : C i o) (hr : AllOps C (i + 1) r) : AllOps C i (o :: r) := ⟨h, hr⟩

theorem repl_false (n i : Nat) : (Array.replicate n false).getD i false = false := by
  rw [Array.getD_eq_getD_getElem?, Array.getElem?_replicate]
  split <;> rfl

/-- What holds while operations are carried out in some order. -/
structure DrawJ (ops : Array Oper) (shape : Nat → Option Nat) (vals : Nat → AV) (base : List (Nat × AV)) (H : (Nat → Bool) → (Nat → AV) → Heap → Prop) (N : Nat) (listed : Array Bool) (e : Nat → AV) (s : AS) : Prop where
  closed : ∀ j o, ops[j]? = some o → listed.getD j false = true → ∀ x ∈ o.after, Region.binds .any x = true → listed.getD x.on false = true
  sz : s.sz = N
  lt : ∀ b o, s.h b = some o → b < s.n
  heap : H (fun i => listed.getD i false) e s.h
  done : ∀ j d, listed.getD j false = true → dstAt ops j = some d → s.t d = drawV shape vals e j
  old : ∀ u, u ∈ base.map (·.1) → (∀ j, dstAt ops j = some u → listed.getD j false = false) → s.t u = assoc base u

theorem AW_draw {P : Program} {id : Nat} {ops : Array Oper} {Q : Go.Exit → AS → Prop} {s : AS} (base : List (Nat × AV)) (shape : Nat → Option Nat) (vals : Nat → AV) (rd : Nat → List (Nat × Option Nat)) (fin : List (Nat × Option Nat)) (H : (Nat → Bool) → (Nat → AV) → Heap → Prop)
    {N : Nat} (hN : s.sz = N) (hm : P.follows .mixedOrders = true) (hB : drawB ops shape rd fin (base.map (·.1)) = true) (hb : FitsEq s base) (hlt : ∀ b o, s.h b = some o → b < s.n) (h0 : H (fun _ => false) (fun _ => .any) s.h)
    (hops : AllOps (fun i o => ∀ D e h n, D i = false → (∀ x ∈ o.after, Region.binds .any x = true → D x.on = true) → H D e h → (∀ b o, h b = some o → b < n) →
      OpW P o (fun s' => ∃ v h' n', s' = (AS.mk (assoc (drawL shape vals e base (rd i))) h' n' N).put o.dst v ∧ v = drawV shape vals (upd e i v) i ∧ H (upd D i true) (upd e i v) h' ∧ ∀ b o, h' b = some o → b < n') (St (drawL shape vals e base (rd i)) h n N)) 0 ops.toList)
    (hk : ∀ e h n, H (fun i => decide (i < ops.size)) e h → (∀ b o, h b = some o → b < n) → Q .normal (St (drawL shape vals e base fin) h n N)) : AW P (.region id ops true) Q s := by
  subst hN
  unfold drawB at hB
  rw [Bool.and_eq_true] at hB
  obtain ⟨hB1, hB2⟩ := hB
  rw [List.all_eq_true] at hB1 hB2
  have each : ∀ i o, ops[i]? = some o → o.guard = none ∧ o.dst.isSome = true ∧ (∀ x ∈ o.after, Region.binds .any x = true → x.on < i) ∧ (∀ j, j < ops.size → j ≠ i → dstAt ops j ≠ o.dst) ∧ (∀ k, shape i = some k → k = i ∨ waitB ops i k = true) ∧
      ∀ p ∈ rd i, (∀ j, p.2 = some j → waitB ops i j = true ∧ dstAt ops j = some p.1) ∧ (p.2 = none → p.1 ∈ base.map (·.1) ∧ ∀ j, j < ops.size → dstAt ops j = some p.1 → j = i ∨ waitB ops j i = true) := by
    intro i o ho
    have hi : i < ops.size := (Array.getElem?_eq_some_iff.1 ho).1
    have h1 := hB1 i (List.mem_range.2 hi)
    rw [ho] at h1
    simp only [Bool.and_eq_true] at h1
    obtain ⟨⟨⟨⟨⟨h2, h3⟩, h4⟩, h5⟩, h6⟩, h7⟩ := h1
    refine ⟨by simpa using h2, h3, fun x hx hbx => ?_, fun j hj hne => ?_, fun k hk => ?_, fun p hp => ?_⟩
    · have := Array.all_eq_true'.1 h4 x hx
      simpa [hbx] using this
    · have := List.all_eq_true.1 h5 j (List.mem_range.2 hj)
      simpa [hne] using this
    · rw [hk] at h6
      simpa using h6
    · have h8 := List.all_eq_true.1 h7 p hp
      refine ⟨fun j hj => ?_, fun hn => ?_⟩
      · rw [hj] at h8
        simpa using h8
      · rw [hn] at h8
        simp only [Bool.and_eq_true] at h8
        refine ⟨by simpa using h8.1, fun j hj hd => ?_⟩
        have := List.all_eq_true.1 h8.2 j (List.mem_range.2 hj)
        simpa [hd] using this
  have wait : ∀ {j i : Nat} {listed : Array Bool}, (∀ j o, ops[j]? = some o → listed.getD j false = true → ∀ x ∈ o.after, Region.binds .any x = true → listed.getD x.on false = true) → waitB ops j i = true → listed.getD j false = true → listed.getD i false = true := by
    intro j i listed hc hw hl
    unfold waitB at hw
    split at hw
    · rename_i o ho
      obtain ⟨x, hx, hx2⟩ := Array.any_eq_true'.1 hw
      simp only [Bool.and_eq_true, beq_iff_eq] at hx2
      rw [← hx2.2]
      exact hc j o ho hl x hx hx2.1
    · cases hw
  have dlt : ∀ {j d : Nat}, dstAt ops j = some d → j < ops.size := by
    intro j d hd
    unfold dstAt at hd
    rw [Option.bind_eq_some_iff] at hd
    obtain ⟨o, ho, _⟩ := hd
    exact (Array.getElem?_eq_some_iff.1 ho).1
  have setD : ∀ (listed : Array Bool) (i k : Nat), i < listed.size → (listed.setIfInBounds i true).getD k false = if k = i then true else listed.getD k false := by
    intro listed i k hi
    simp only [Array.getD_eq_getD_getElem?, Array.getElem?_setIfInBounds]
    by_cases h : i = k
    · subst h; simp [hi]
    · simp [h, Ne.symm h]
  refine AW_any hm ?_
  refine AnyW_of_inv (fun listed s' => listed.size = ops.size ∧ ∃ e, DrawJ ops shape vals base H s.sz listed e s') ?_ ?_ ops.size _ s (by simp) (by omega) ?_
  · rintro listed s1 i o ⟨hsz, e, J⟩ hi ho
    obtain ⟨hg, hds, hfw, hdd, hsh, hrd⟩ := each i o ho
    have hilt : i < ops.size := (Array.getElem?_eq_some_iff.1 ho).1
    simp only [Region.ready, List.mem_filter, List.mem_range, Bool.and_eq_true, Bool.not_eq_true'] at hi
    obtain ⟨_, hun, haf⟩ := hi
    have hun2 : listed.getD i false = false := by
      have : i < listed.size := by omega
      simp only [Array.getD_eq_getD_getElem?, Array.getElem?_eq_getElem this, Option.getD_some] at hun ⊢
      exact hun
    rw [ho] at haf
    simp only [Option.map_some, Option.getD_some] at haf
    have haf2 : ∀ x ∈ o.after, Region.binds .any x = true → listed.getD x.on false = true := by
      intro x hx hbx
      have := Array.all_eq_true'.1 haf x hx
      simpa [hbx] using this
    obtain ⟨d, hd⟩ := Option.isSome_iff_exists.1 hds
    have hfit : Fits s1 (drawL shape vals e base (rd i)) := by
      have : ∀ l : List (Nat × Option Nat), (∀ p ∈ l, (∀ j, p.2 = some j → waitB ops i j = true ∧ dstAt ops j = some p.1) ∧ (p.2 = none → p.1 ∈ base.map (·.1) ∧ ∀ j, j < ops.size → dstAt ops j = some p.1 → j = i ∨ waitB ops j i = true)) → Fits s1 (drawL shape vals e base l) := by
        intro l
        induction l with
        | nil => exact fun _ => trivial
        | cons p l ih =>
          intro hl
          have hl2 := ih (fun q hq => hl q (List.mem_cons_of_mem _ hq))
          obtain ⟨h1, h2⟩ := hl p List.mem_cons_self
          obtain ⟨u, src⟩ := p
          cases src with
          | none =>
            obtain ⟨h3, h4⟩ := h2 rfl
            refine ⟨?_, hl2⟩
            rw [J.old u h3 (fun j hj => ?_)]
            · exact .same _
            · rcases h4 j (dlt hj) hj with rfl | hw
              · exact hun2
              · rcases Bool.eq_false_or_eq_true (listed.getD j false) with hb | hb
                · have := wait J.closed hw hb
                  rw [hun2] at this
                  cases this
                · exact hb
          | some j =>
            obtain ⟨h3, h4⟩ := h1 j rfl
            refine ⟨?_, hl2⟩
            have hj : listed.getD j false = true := by
              unfold waitB at h3
              rw [ho] at h3
              obtain ⟨x, hx, hx2⟩ := Array.any_eq_true'.1 h3
              simp only [Bool.and_eq_true, beq_iff_eq] at hx2
              rw [← hx2.2]
              exact haf2 x hx hx2.1
            rw [J.done j u hj h4]
            exact .same _
      exact this (rd i) hrd
    refine ⟨hg, ?_⟩
    have hop := AllOps.get _ _ hops i o (by simpa using ho)
    rw [Nat.zero_add] at hop
    have hop2 := hop (fun k => listed.getD k false) e s1.h s1.n hun2 haf2 J.heap J.lt
    rw [← J.sz] at hop2
    refine OpW_frame hfit hd hop2 ?_
    rintro s' ⟨v, h', n', rfl, hv, hH, hl'⟩
    refine ⟨v, h', n', by rw [hd], by simp [hsz], upd e i v, ?_⟩
    have hs := setD listed i
    have hisz : i < listed.size := by omega
    have hDu : (fun k => (listed.setIfInBounds i true).getD k false) = upd (fun k => listed.getD k false) i true := by
      funext k
      rw [hs k hisz]
      rfl
    have hval : ∀ j, listed.getD j false = true → drawV shape vals (upd e i v) j = drawV shape vals e j := by
      intro j hj
      unfold drawV
      cases hsj : shape j with
      | none => rfl
      | some k =>
        simp only [upd]
        have hki : k ≠ i := by
          rintro rfl
          have hjl : j < ops.size := by
            rcases Nat.lt_or_ge j ops.size with h | h
            · exact h
            · have : listed.size ≤ j := by omega
              simp [Array.getElem?_eq_none this] at hj
          rcases (each j ops[j] (Array.getElem?_eq_getElem hjl)).2.2.2.2.1 k hsj with h | h
          · subst h
            rw [hun2] at hj
            cases hj
          · have := wait J.closed h hj
            rw [hun2] at this
            cases this
        rw [if_neg hki]
    refine ⟨fun j oj hoj hlj x hx hbx => ?_, J.sz, hl', by rw [hDu]; exact hH, fun j d' hlj hdj => ?_, fun u hu hno => ?_⟩
    · rw [hs _ hisz] at hlj ⊢
      by_cases hji : j = i
      · subst hji
        rw [ho] at hoj
        cases hoj
        rw [haf2 x hx hbx]
        simp
      · rw [if_neg hji] at hlj
        rw [J.closed j oj hoj hlj x hx hbx]
        simp
    · rw [hs _ hisz] at hlj
      by_cases hji : j = i
      · subst hji
        have hdd' : d' = d := by
          unfold dstAt at hdj
          rw [ho] at hdj
          simp only [Option.bind_some, hd, Option.some.injEq] at hdj
          exact hdj.symm
        subst hdd'
        show (if d' = d' then v else s1.t d') = _
        rw [if_pos rfl]
        exact hv
      · rw [if_neg hji] at hlj
        have hne : d' ≠ d := by
          rintro rfl
          exact hdd j (dlt hdj) hji (by rw [hdj, hd])
        show (if d' = d then v else s1.t d') = _
        rw [if_neg hne, hval j hlj]
        exact J.done j d' hlj hdj
    · have hne : u ≠ d := by
        rintro rfl
        have := hno i (by unfold dstAt; rw [ho]; exact hd)
        rw [hs _ hisz, if_pos rfl] at this
        cases this
      show (if u = d then v else s1.t u) = _
      rw [if_neg hne]
      refine J.old u hu (fun j hj => ?_)
      have := hno j hj
      rw [hs _ hisz] at this
      split at this
      · cases this
      · exact this
  · rintro listed s1 ⟨hsz, e, J⟩ hnil
    have hall : ∀ i, i < ops.size → listed.getD i false = true := by
      intro i
      induction i using Nat.strongRecOn with
      | _ i ih =>
        intro hi
        rcases Bool.eq_false_or_eq_true (listed.getD i false) with h | h
        · exact h
        · exfalso
          have ho : ops[i]? = some ops[i] := Array.getElem?_eq_getElem hi
          have hmem : i ∈ Region.ready .any ops listed := by
            simp only [Region.ready, List.mem_filter, List.mem_range, Bool.and_eq_true, Bool.not_eq_true']
            refine ⟨hi, ?_, ?_⟩
            · have : i < listed.size := by omega
              simp only [Array.getD_eq_getD_getElem?, Array.getElem?_eq_getElem this, Option.getD_some] at h ⊢
              exact h
            · rw [ho]
              simp only [Option.map_some, Option.getD_some]
              rw [Array.all_eq_true']
              intro x hx
              rcases Bool.eq_false_or_eq_true (Region.binds .any x) with hb | hb
              · have hlt2 := (each i _ ho).2.2.1 x hx hb
                have := ih x.on hlt2 (by omega)
                simp only [hb, this]
                rfl
              · simp [hb]
          rw [hnil] at hmem
          cases hmem
    have hDe : (fun i => listed.getD i false) = fun i => decide (i < ops.size) := by
      funext i
      by_cases hi : i < ops.size
      · rw [hall i hi]; simp [hi]
      · have : listed.size ≤ i := by omega
        simp [Array.getElem?_eq_none this, hi]
    have hH := J.heap
    rw [hDe] at hH
    refine ⟨_, ?_, (by have := hk e s1.h s1.n hH J.lt; rw [← J.sz] at this; exact this)⟩
    have : ∀ l : List (Nat × Option Nat), (∀ p ∈ l, (match p.2 with
      | some j => decide (j < ops.size) && decide (dstAt ops j = some p.1)
      | none => (base.map (·.1)).contains p.1 && (List.range ops.size).all fun j => decide (dstAt ops j ≠ some p.1)) = true) → Fits s1 (drawL shape vals e base l) := by
      intro l
      induction l with
      | nil => exact fun _ => trivial
      | cons p l ih =>
        intro hl
        have hl2 := ih (fun q hq => hl q (List.mem_cons_of_mem _ hq))
        have h1 := hl p List.mem_cons_self
        obtain ⟨u, src⟩ := p
        cases src with
        | none =>
          simp only [Bool.and_eq_true] at h1
          refine ⟨?_, hl2⟩
          rw [J.old u (by simpa using h1.1) (fun j hj => ?_)]
          · exact .same _
          · have := List.all_eq_true.1 h1.2 j (List.mem_range.2 (dlt hj))
            simp [hj] at this
        | some j =>
          simp only [Bool.and_eq_true, decide_eq_true_eq] at h1
          refine ⟨?_, hl2⟩
          rw [J.done j u (hall j h1.1) h1.2]
          exact .same _
    exact this fin hB2
  · refine ⟨by simp, fun _ => .any, fun j o ho hl => ?_, rfl, hlt, ?_, fun j d hl _ => ?_, fun u hu _ => ?_⟩
    · rw [repl_false] at hl; cases hl
    · have : (fun i => (Array.replicate ops.size false).getD i false) = fun _ => false := by
        funext i
        exact repl_false _ _
      rw [this]
      exact h0
    · rw [repl_false] at hl; cases hl
    · have : ∀ l : List (Nat × AV), FitsEq s l → u ∈ l.map (·.1) → s.t u = assoc l u := by
        intro l
        induction l with
        | nil => intro _ h; simp at h
        | cons p l ih =>
          obtain ⟨k, v⟩ := p
          intro hf hm
          simp only [assoc]
          by_cases huk : u = k
          · rw [if_pos huk, huk]; exact hf.1
          · rw [if_neg huk]
            refine ih hf.2 ?_
            simpa [huk] using hm
      exact this base hb hu
/-! ### The same steps, for one operation -/
section w
variable {P : Program} {K : AS → Prop} {s : AS} {dst : Option Tmp} {ty : TypeId} {pos : String} {after : Array Edge}
theorem w_move {x : Operand} (hd : dOk s dst = true) (hk : K (s.put dst (aev s x))) : OpW P ⟨dst, .move x, ty, pos, after, none⟩ K s := OpW_move hd hk
theorem w_asg {x : Operand} (hd : dOk s dst = true) (hk : K (s.put dst (aev s x))) : OpW P ⟨dst, .assign x, ty, pos, after, none⟩ K s := OpW_assign hd hk
theorem w_ext {x : Operand} {i : Nat} {cs : List AV} {c : AV} (hd : dOk s dst = true) (hx : aev s x = .tup cs) (hi : cs[i]? = some c) (hk : K (s.put dst c)) : OpW P ⟨dst, .extract x i, ty, pos, after, none⟩ K s := OpW_extract hx hi hd hk
theorem w_bin {op : BinOp} {t yt : TypeId} {x y : Operand} {k : IntKind} {a b : Int} {v : Value} (hd : dOk s dst = true) (hx : aev s x = .sc (.int k a)) (hy : aev s y = .sc (.int k b)) (hv : ibin op k a b = some v) (hk : K (s.put dst (.sc v))) : OpW P ⟨dst, .binOp op t x y yt, ty, pos, after, none⟩ K s := OpW_ibin hx hy hv hd hk
theorem w_add {t yt : TypeId} {x y : Operand} {a b c : Int} (hd : dOk s dst = true) (hx : aev s x = .sc (.int .i64 a)) (hy : aev s y = .sc (.int .i64 b)) (hc : a + b = c) (hr : -9223372036854775808 ≤ c ∧ c ≤ 9223372036854775807) (hk : K (s.put dst (.sc (.int .i64 c)))) : OpW P ⟨dst, .binOp .add t x y yt, ty, pos, after, none⟩ K s := by
  subst hc
  exact OpW_ibin hx hy (by simp only [ibin]; rw [wrap64 hr]) hd hk
theorem w_sub {t yt : TypeId} {x y : Operand} {a b c : Int} (hd : dOk s dst = true) (hx : aev s x = .sc (.int .i64 a)) (hy : aev s y = .sc (.int .i64 b)) (hc : a - b = c) (hr : -9223372036854775808 ≤ c ∧ c ≤ 9223372036854775807) (hk : K (s.put dst (.sc (.int .i64 c)))) : OpW P ⟨dst, .binOp .sub t x y yt, ty, pos, after, none⟩ K s := by
  subst hc
  exact OpW_ibin hx hy (by simp only [ibin]; rw [wrap64 hr]) hd hk
theorem w_shift {op : BinOp} {t yt : TypeId} {x y : Operand} {k k' : IntKind} {a b c : Int} (hd : dOk s dst = true) (hx : aev s x = .sc (.int k a)) (hy : aev s y = .sc (.int k' b)) (hop : op = .shl ∨ op = .shr) (hb : 0 ≤ b)
    (hc : (if op = .shl then k.wrap (a * 2 ^ min b.toNat k.bits) else a.fdiv (2 ^ min b.toNat k.bits)) = c) (hk : K (s.put dst (.sc (.int k c)))) : OpW P ⟨dst, .binOp op t x y yt, ty, pos, after, none⟩ K s := by
  subst hc
  refine OpW_same hd (fun Z a' w r => ⟨_, ?_, .sc _ rfl⟩) hk
  have h1 := aev_rel r x
  have h2 := aev_rel r y
  rw [hx] at h1
  rw [hy] at h2
  simp only [execOp, h1.sc_inv, h2.sc_inv]
  rcases hop with rfl | rfl <;> simp [eqGuard, binOp, Op.shift, Int.not_lt.2 hb]
theorem w_ci {src dt : TypeId} {x : Operand} {k k' : IntKind} {d' : TypeDesc} {n m : Int} (hd : dOk s dst = true) (hs : P.underlying src = some d') (ht : P.underlying dt = some (.int k')) (hx : aev s x = .sc (.int k n)) (hm : k'.wrap n = m) (hk : K (s.put dst (.sc (.int k' m)))) : OpW P ⟨dst, .convert src dt x, ty, pos, after, none⟩ K s := by
  subst hm
  exact OpW_conv_int hs ht hx hd hk
theorem w_len {x : Operand} {t e : TypeId} {n : Nat} (hd : dOk s dst = true) (ht : P.underlying t = some (.slice e)) (hx : lenOf (aev s x) = some n) (hk : K (s.put dst (.sc (.int .i64 n)))) : OpW P ⟨dst, .call { callee := .builtin .len, args := #[x], argTypes := #[t] }, ty, pos, after, none⟩ K s := OpW_len ht hx hd hk
theorem w_lens {x : Operand} {t : TypeId} {b : ByteArray} (hd : dOk s dst = true) (ht : P.underlying t = some .string) (hx : aev s x = .sc (.string b)) (hk : K (s.put dst (.sc (.int .i64 b.size)))) : OpW P ⟨dst, .call { callee := .builtin .len, args := #[x], argTypes := #[t] }, ty, pos, after, none⟩ K s := OpW_len_str ht hx hd hk
theorem w_ixl {t e : TypeId} {x y : Operand} {cs : List AV} {n z : Nat} {k : IntKind} {i : Int} {i' : Nat} (hd : dOk s dst = true) (ht : P.underlying t = some (.slice e)) (hz : (P.info? e).map (·.size) = some z) (hx : aev s x = .lst cs n) (hy : aev s y = .sc (.int k i)) (hi : i = (i' : Int)) (hj : i' < n) (hne : cs ≠ []) (hk : K (s.put dst (.rptr cs (i' * z)))) : OpW P ⟨dst, .indexAddr t x y, ty, pos, after, none⟩ K s := OpW_indexAddr_l hx hy hi hj ht hz hne hd hk
theorem w_ld {t : TypeId} {p : Operand} {cs : List AV} {off : Nat} {c : AV} {d : TypeDesc} (hd : dOk s dst = true) (ht : P.underlying t = some d) (hag : isAggD d = false) (hp : atp s (aev s p) = some (cs, off)) (hc : cs[off]? = some c) (hk : K (s.put dst c)) : OpW P ⟨dst, .load t p, ty, pos, after, none⟩ K s := OpW_load hp ht hag hc hd hk
theorem w_cb {src dt e : TypeId} {x : Operand} {bs : List UInt8} (hd : dOk s dst = true) (hs : P.underlying src = some (.slice e)) (he : P.underlying e = some (.int .u8)) (ht : P.underlying dt = some .string) (hx : acont s (aev s x) = some (bcells bs, bs.length)) (hk : K (s.put dst (.sc (.string (strB bs))))) : OpW P ⟨dst, .convert src dt x, ty, pos, after, none⟩ K s := OpW_conv_bytes hs he ht hx hd hk
theorem w_cat {t yt : TypeId} {x y : Operand} {a b : List UInt8} (hd : dOk s dst = true) (hx : aev s x = .txt a) (hy : aev s y = .txt b) (hl : a.length + b.length ≤ 9223372036854775807) (hk : K (s.put dst (.txt (a ++ b)))) : OpW P ⟨dst, .binOp .add t x y yt, ty, pos, after, none⟩ K s := by
  refine OpW_sbin hx hy (v := .string (strB a ++ strB b)) ?_ hd (by rw [strB_append]; exact hk)
  simp only [sbin]
  exact if_pos hl
theorem w_seq {t yt : TypeId} {x y : Operand} {a b : List UInt8} (hd : dOk s dst = true) (hx : aev s x = .txt a) (hy : aev s y = .txt b) (hk : K (s.put dst (.bool (a == b)))) : OpW P ⟨dst, .binOp .eql t x y yt, ty, pos, after, none⟩ K s :=
  OpW_sbin hx hy (v := .bool (a == b)) (by simp only [sbin, strB_toList]) hd hk
theorem w_sne {t yt : TypeId} {x y : Operand} {a b : List UInt8} (hd : dOk s dst = true) (hx : aev s x = .txt a) (hy : aev s y = .txt b) (hk : K (s.put dst (.bool (!(a == b))))) : OpW P ⟨dst, .binOp .neq t x y yt, ty, pos, after, none⟩ K s :=
  OpW_sbin hx hy (v := .bool (!(a == b))) (by simp only [sbin, strB_toList]) hd hk
theorem w_ixt {t : TypeId} {x y : Operand} {b : List UInt8} {k : IntKind} {i : Int} {n : Nat} {c : UInt8} (hd : dOk s dst = true) (ht : P.underlying t = some .string) (hx : aev s x = .txt b) (hy : aev s y = .sc (.int k i)) (hi : i = (n : Int)) (hc : b[n]? = some c) (hk : K (s.put dst (.sc (.int .u8 c.toNat)))) : OpW P ⟨dst, .index t x y, ty, pos, after, none⟩ K s :=
  OpW_index_str ht hx hy hi (by simpa [strB] using hc) hd hk
/-- Part of a text; part of a row that is only read. -/
theorem w_cutt {t : TypeId} {x : Operand} {lo hi : Option Operand} {b c : List UInt8} {l h : Nat} (hd : dOk s dst = true) (ht : P.underlying t = some .string) (hx : aev s x = .txt b) (hl : bnd s lo 0 l) (hh : bnd s hi b.length h) (h1 : l ≤ h) (h2 : h ≤ b.length) (hc : (b.drop l).take (h - l) = c) (hk : K (s.put dst (.txt c))) : OpW P ⟨dst, .slice t x lo hi none, ty, pos, after, none⟩ K s := by
  subst hc
  exact OpW_cut_str hx ht hl hh rfl h1 h2 hd (by rw [strB_extract]; exact hk)
theorem w_cutl {t e : TypeId} {x : Operand} {lo hi : Option Operand} {cs : List AV} {n l h z : Nat} (hd : dOk s dst = true) (ht : P.underlying t = some (.slice e)) (hz : (P.info? e).map (·.size) = some z) (hx : aev s x = .lst cs n) (hl : bnd s lo 0 l) (hh : bnd s hi n h) (h1 : l ≤ h) (h2 : h ≤ n) (hk : K (s.put dst (.lst ((cs.drop (l * z)).take ((h - l) * z)) (h - l)))) : OpW P ⟨dst, .slice t x lo hi none, ty, pos, after, none⟩ K s :=
  OpW_cut_l (m := 0) hx ht hz hl hh (.inl rfl) h1 h2 hd hk
theorem w_cutb {t e : TypeId} {x : Operand} {lo hi : Option Operand} {b c : List UInt8} {l h : Nat} (hd : dOk s dst = true) (ht : P.underlying t = some (.slice e)) (hz : (P.info? e).map (·.size) = some 1) (hx : aev s x = .bytes b) (hl : bnd s lo 0 l) (hh : bnd s hi b.length h) (h1 : l ≤ h) (h2 : h ≤ b.length) (hc : (b.drop l).take (h - l) = c) (hk : K (s.put dst (.bytes c))) : OpW P ⟨dst, .slice t x lo hi none, ty, pos, after, none⟩ K s := by
  subst hc
  refine OpW_cut_l (m := 0) hx ht hz hl hh (.inl rfl) h1 h2 hd ?_
  have e1 : (bcells b |>.drop (l * 1)).take ((h - l) * 1) = bcells ((b.drop l).take (h - l)) := by simp [bcells, List.map_drop, List.map_take]
  have e2 : h - l = ((b.drop l).take (h - l)).length := by simp; omega
  rw [e1]
  have hk2 : AV.lst (bcells ((b.drop l).take (h - l))) (h - l) = .bytes ((b.drop l).take (h - l)) := by
    show _ = AV.lst _ _
    rw [← e2]
  rw [hk2]
  exact hk
theorem bnd_none (d : Nat) : bnd s none d d := rfl
theorem bnd_some {x : Operand} {d v : Nat} (k : IntKind) (h : aev s x = .sc (.int k v)) : bnd s (some x) d v := ⟨k, h⟩
end w

section o
variable {P : Program} {ops : Array Oper} {K : AS → Prop} {s : AS} {j : Nat} {l : List Nat} {dst : Option Tmp} {ty : TypeId} {pos : String} {after : Array Edge}
/-- One step out of the law for its operation. -/
theorem o_w {o : Oper} (ho : ops[j]? = some o) (hg : o.guard = none) (h : OpW P o (OpsW P ops l K) s) : OpsW P ops (j :: l) K s := OpsW_cons ho hg h
end o
end Go.Proofs.Ytglgdaeimfdpfaa.VM
