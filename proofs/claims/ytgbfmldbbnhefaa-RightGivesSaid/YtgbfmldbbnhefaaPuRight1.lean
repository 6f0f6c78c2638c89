/- Grants: bounds, ranks, who is reached. -/
import Derived.Test.YtgbfmldbbnhefaaGr12
import Derived.Test.YtgbfmldbbnhefaaVtRule
namespace Go.Proofs.Ytgbfmldbbnhefaa.VM
open Go Go.RowKit
/-- Who owns an object. -/
def own (o : Int) : Int := o.tdiv 4
theorem own_w {o : Int} (h : 0 ≤ o ∧ o < 12) : w64 (o.tdiv 4) = own o := w64_id (by
  have h1 : o.tdiv 4 = o / 4 := Int.tdiv_eq_ediv_of_nonneg h.1
  omega)
theorem own_range {o : Int} (h : 0 ≤ o ∧ o < 12) : 0 ≤ own o ∧ own o < 3 := by
  have h1 : o.tdiv 4 = o / 4 := Int.tdiv_eq_ediv_of_nonneg h.1
  unfold own
  omega
/-- A grant within its bounds. -/
structure InB (g : GGrant) : Prop where
  f0 : 0 ≤ g.From
  f1 : g.From < 3
  t0 : 0 ≤ g.To
  t1 : g.To < 3
  o0 : 0 ≤ g.Object
  o1 : g.Object < 12
  r : g.Right = 1 ∨ g.Right = 2
  ft : g.From ≠ g.To
  ot : g.To ≠ own g.Object
open Classical in
noncomputable def bndG (g : GGrant) : Int :=
  if ¬ (0 ≤ g.From ∧ g.From < 3 ∧ 0 ≤ g.To ∧ g.To < 3 ∧ 0 ≤ g.Object ∧ g.Object < 12) then 6 else if g.Right ≠ 1 ∧ g.Right ≠ 2 then 2 else if g.From = g.To ∨ g.To = own g.Object then 3 else 0
theorem bndG_zero {g : GGrant} : bndG g = 0 ↔ InB g := by
  unfold bndG
  constructor
  · intro h
    split at h
    · cases h
    · rename_i h1
      split at h
      · cases h
      · rename_i h2
        split at h
        · cases h
        · rename_i h3
          have h1 := Classical.not_not.1 h1
          exact ⟨h1.1, h1.2.1, h1.2.2.1, h1.2.2.2.1, h1.2.2.2.2.1, h1.2.2.2.2.2, by omega, by omega, by omega⟩
  · intro h
    rw [if_neg (Classical.not_not.2 ⟨h.f0, h.f1, h.t0, h.t1, h.o0, h.o1⟩), if_neg (by have := h.r; omega), if_neg (by have := h.ft; have := h.ot; omega)]
theorem bounds_eq (g : GGrant) : g_right_bounds g = some (bndG g) := by
  unfold g_right_bounds bndG g_right_owner
  by_cases h : 0 ≤ g.From ∧ g.From < 3 ∧ 0 ≤ g.To ∧ g.To < 3 ∧ 0 ≤ g.Object ∧ g.Object < 12
  · rw [if_neg (by omega), if_neg (Classical.not_not.2 h), own_w ⟨h.2.2.2.2.1, h.2.2.2.2.2⟩]
    by_cases h1 : g.Right ≠ 1 ∧ g.Right ≠ 2
    · rw [if_pos h1, if_pos h1]
    · rw [if_neg h1, if_neg h1]
      by_cases h2 : g.From = g.To
      · rw [if_pos h2, if_pos (.inl h2)]; rfl
      · by_cases h3 : g.To = own g.Object
        · simp [h2, h3]
        · simp [h2, h3]
  · rw [if_pos (by omega), if_pos h]
theorem rbounds_eq (g : GGrant) : g_ref_grantBounds g = some (bndG g) := by
  unfold g_ref_grantBounds bndG g_ref_Owner g_ref_grantBounds_1
  simp only [Option.bind_some]
  by_cases h : 0 ≤ g.From ∧ g.From < 3 ∧ 0 ≤ g.To ∧ g.To < 3 ∧ 0 ≤ g.Object ∧ g.Object < 12
  · have e1 : decide (g.From ≥ 0 ∧ g.From < 3) = true := decide_eq_true (by omega)
    have e2 : decide (g.To ≥ 0 ∧ g.To < 3) = true := decide_eq_true (by omega)
    have e3 : decide (g.Object ≥ 0 ∧ g.Object < 12) = true := decide_eq_true (by omega)
    rw [e1, e2, e3, if_neg (Classical.not_not.2 h), own_w ⟨h.2.2.2.2.1, h.2.2.2.2.2⟩]
    simp only [Bool.not_true, Bool.false_eq_true, if_false, Option.bind_some]
    by_cases h1 : g.Right ≠ 1 ∧ g.Right ≠ 2
    · rw [if_pos h1, if_pos h1]
    · rw [if_neg h1, if_neg h1]
      by_cases h2 : g.From = g.To
      · rw [if_pos h2, if_pos (.inl h2)]; rfl
      · by_cases h3 : g.To = own g.Object
        · simp [h2, h3]
        · simp [h2, h3]
  · rw [if_pos h]
    by_cases a1 : g.From ≥ 0 ∧ g.From < 3
    · by_cases a2 : g.To ≥ 0 ∧ g.To < 3
      · have a3 : ¬ (g.Object ≥ 0 ∧ g.Object < 12) := by omega
        rw [decide_eq_true a1, decide_eq_true a2, decide_eq_false a3]; rfl
      · rw [decide_eq_true a1, decide_eq_false a2]; rfl
    · rw [decide_eq_false a1]; rfl
/-- A grant's rank. -/
def rk (g : GGrant) : Int := ((g.Object * 3 + g.Right) * 3 + g.From) * 3 + g.To
theorem rk_eq {g : GGrant} (h : InB g) : g_ref_rank g = some (rk g) := by
  have h1 := h.f0; have h2 := h.f1; have h3 := h.t0; have h4 := h.t1; have h5 := h.o0; have h6 := h.o1; have h7 := h.r
  unfold g_ref_rank rk
  rw [letO_eq, w64_id (by omega : -9223372036854775808 ≤ g.Object * 3 ∧ g.Object * 3 ≤ 9223372036854775807),
    w64_id (by omega : -9223372036854775808 ≤ g.Object * 3 + g.Right ∧ g.Object * 3 + g.Right ≤ 9223372036854775807),
    w64_id (by omega : -9223372036854775808 ≤ (g.Object * 3 + g.Right) * 3 ∧ (g.Object * 3 + g.Right) * 3 ≤ 9223372036854775807),
    w64_id (by omega : -9223372036854775808 ≤ (g.Object * 3 + g.Right) * 3 + g.From ∧ (g.Object * 3 + g.Right) * 3 + g.From ≤ 9223372036854775807),
    w64_id (by omega : -9223372036854775808 ≤ ((g.Object * 3 + g.Right) * 3 + g.From) * 3 ∧ ((g.Object * 3 + g.Right) * 3 + g.From) * 3 ≤ 9223372036854775807),
    w64_id (by omega)]
theorem rk_pos {g : GGrant} (h : InB g) : 0 ≤ rk g := by
  have h1 := h.f0; have h3 := h.t0; have h5 := h.o0; have h7 := h.r
  unfold rk; omega
def plc (g : GGrant) : Gright_place := ⟨g.Object, g.Right, g.From, g.To⟩
theorem plc_eq (g : GGrant) : g_right_placed g = some (plc g) := rfl
theorem before_eq {g h : GGrant} (hg : InB g) (hh : InB h) : g_right_place_before (plc g) (plc h) = some (decide (rk g < rk h)) := by
  have a1 := hg.f0; have a2 := hg.f1; have a3 := hg.t0; have a4 := hg.t1; have a7 := hg.r
  have b1 := hh.f0; have b2 := hh.f1; have b3 := hh.t0; have b4 := hh.t1; have b7 := hh.r
  unfold g_right_place_before plc rk
  simp only
  by_cases h1 : g.Object ≠ h.Object
  · rw [if_pos h1]
    congr 2
    exact propext ⟨fun q => by omega, fun q => by omega⟩
  · rw [if_neg h1]
    by_cases h2 : g.Right ≠ h.Right
    · rw [if_pos h2]
      congr 2
      exact propext ⟨fun q => by omega, fun q => by omega⟩
    · rw [if_neg h2]
      by_cases h3 : g.From ≠ h.From
      · rw [if_pos h3]
        congr 2
        exact propext ⟨fun q => by omega, fun q => by omega⟩
      · rw [if_neg h3]
        congr 2
        exact propext ⟨fun q => by omega, fun q => by omega⟩
theorem plc_rk {g h : GGrant} (hg : InB g) (hh : InB h) : plc g = plc h ↔ rk g = rk h := by
  have a1 := hg.f0; have a2 := hg.f1; have a3 := hg.t0; have a4 := hg.t1; have a7 := hg.r
  have b1 := hh.f0; have b2 := hh.f1; have b3 := hh.t0; have b4 := hh.t1; have b7 := hh.r
  unfold plc rk
  simp only [Gright_place.mk.injEq]
  constructor
  · rintro ⟨h1, h2, h3, h4⟩; omega
  · intro h; omega
/-- Who is reached, by grants that may be handed on. -/
inductive Rc (l : List GGrant) (o r : Int) : Int → Prop where
  | base : Rc l o r (own o)
  | step (g : GGrant) (hg : g ∈ l) (ho : g.Option = true) (h1 : g.Object = o) (h2 : g.Right = r) (h : Rc l o r g.From) : Rc l o r g.To
/-- One pass over the grants. -/
def pass1 (o r : Int) (v : Vector Bool 3) (g : GGrant) : Vector Bool 3 :=
  if g.Option = true ∧ g.Object = o ∧ g.Right = r ∧ vrd v g.From.toNat = true then vwr v g.To.toNat true else v
theorem pass_loop {l : List GGrant} (hl : l.length ≤ 96) (hb : ∀ g ∈ l, InB g) (o r : Int) (v : Vector Bool 3) : loopO (g_ref_Reached_l1 l o r) ((0 : Int), v) = some (l.foldl (pass1 o r) v) := by
  refine loopO_fold l (fun k v => ((k : Int), v)) (pass1 o r) id (fun _ _ => True) (fun k v hk _ => ⟨?_, trivial⟩) (fun v _ => ?_) trivial
  · have hg := hb _ (lrd_mem hk)
    unfold g_ref_Reached_l1
    simp only
    rw [if_pos (natLt hk), if_pos (natIn hk), w64_succ (by omega), Int.toNat_natCast]
    generalize lrd l k = g at hg
    have a1 := hg.f0; have a2 := hg.f1; have a3 := hg.t0; have a4 := hg.t1
    by_cases h1 : g.Option = true
    · by_cases h2 : g.Object = o
      · by_cases h3 : g.Right = r
        · rw [if_pos h1, if_pos h2, if_pos h3, if_pos ⟨a1, a2⟩]
          by_cases h4 : vrd v g.From.toNat = true
          · rw [Option.bind_some, if_pos h4, if_pos ⟨a3, a4⟩, show pass1 o r v g = _ from if_pos ⟨h1, h2, h3, h4⟩]; rfl
          · rw [Option.bind_some, if_neg h4, show pass1 o r v g = _ from if_neg (fun q => h4 q.2.2.2)]; rfl
        · rw [if_pos h1, if_pos h2, if_neg h3, show pass1 o r v g = _ from if_neg (fun q => h3 q.2.2.1)]; rfl
      · rw [if_pos h1, if_neg h2, show pass1 o r v g = _ from if_neg (fun q => h2 q.2.1)]; rfl
    · rw [if_neg h1, show pass1 o r v g = _ from if_neg (fun q => h1 q.1)]; rfl
  · unfold g_ref_Reached_l1
    simp only
    rw [if_neg natNlt]
    rfl
theorem reached_eq0 {l : List GGrant} (hl : l.length ≤ 96) (hb : ∀ g ∈ l, InB g) {u o r : Int} (hu : 0 ≤ u ∧ u < 3) (ho : 0 ≤ o ∧ o < 12) : g_ref_Reached l u o r =
    some (vrd (l.foldl (pass1 o r) (l.foldl (pass1 o r) (l.foldl (pass1 o r) (vwr (Vector.replicate 3 false) (own o).toNat true)))) u.toNat) := by
  unfold g_ref_Reached g_ref_Owner
  rw [own_w ho, Option.bind_some, if_pos (own_range ho)]
  have s : ∀ (k : Int) v, k < 3 → g_ref_Reached_l0 l o r (k, v) = some (.inl (w64 (k + 1), l.foldl (pass1 o r) v)) := by
    intro k v hk
    unfold g_ref_Reached_l0
    simp only
    rw [if_pos hk, pass_loop hl hb]
    rfl
  rw [loopO_next (s 0 _ (by decide)), show w64 ((0 : Int) + 1) = 1 from rfl, loopO_next (s 1 _ (by decide)), show w64 ((1 : Int) + 1) = 2 from rfl, loopO_next (s 2 _ (by decide)), show w64 ((2 : Int) + 1) = 3 from rfl]
  rw [loopO_done (r := l.foldl (pass1 o r) (l.foldl (pass1 o r) (l.foldl (pass1 o r) (vwr (Vector.replicate 3 false) (own o).toNat true)))) (by
    unfold g_ref_Reached_l0
    simp only
    rw [if_neg (by decide)])]
  rw [Option.bind_some, if_pos hu]
/-! What passes come to -/
def LeV (v w : Vector Bool 3) : Prop := ∀ j, j < 3 → vrd v j = true → vrd w j = true
theorem pass1_le (o r : Int) (v : Vector Bool 3) (g : GGrant) : LeV v (pass1 o r v g) := by
  intro j hj hv
  unfold pass1
  split
  · by_cases h : j = g.To.toNat
    · rw [h, vrd_vwr_eq (by omega)]
    · rw [vrd_vwr_ne hj h]; exact hv
  · exact hv
theorem pass_le (o r : Int) : ∀ (l : List GGrant) (v : Vector Bool 3), LeV v (l.foldl (pass1 o r) v)
  | [], _ => fun _ _ h => h
  | g :: l, v => fun j hj h => pass_le o r l _ j hj (pass1_le o r v g j hj h)
def ClosedV (l : List GGrant) (o r : Int) (v : Vector Bool 3) : Prop := ∀ g ∈ l, g.Option = true → g.Object = o → g.Right = r → vrd v g.From.toNat = true → vrd v g.To.toNat = true
theorem vwr_same {v : Vector Bool 3} {j : Nat} (hj : j < 3) (h : vrd v j = true) : vwr v j true = v := by
  refine vec_eq_of fun i hi => ?_
  by_cases hij : i = j
  · subst hij; rw [vrd_vwr_eq hj, h]
  · rw [vrd_vwr_ne hi hij]
theorem pass_closed {l : List GGrant} (hb : ∀ g ∈ l, InB g) {o r : Int} {v : Vector Bool 3} (h : ClosedV l o r v) : l.foldl (pass1 o r) v = v := by
  induction l with
  | nil => rfl
  | cons g l ih =>
    rw [List.foldl_cons]
    have : pass1 o r v g = v := by
      unfold pass1
      split
      · rename_i hc
        have hg := hb g List.mem_cons_self
        exact vwr_same (by have := hg.t0; have := hg.t1; omega) (h g List.mem_cons_self hc.1 hc.2.1 hc.2.2.1 hc.2.2.2)
      · rfl
    rw [this]
    exact ih (fun x hx => hb x (List.mem_cons_of_mem _ hx)) fun x hx => h x (List.mem_cons_of_mem _ hx)
theorem LeV.antisymm {v w : Vector Bool 3} (h1 : LeV v w) (h2 : LeV w v) : v = w := by
  refine vec_eq_of fun j hj => ?_
  have a := h1 j hj
  have b := h2 j hj
  cases hv : vrd v j <;> cases hw : vrd w j <;> simp_all
theorem closed_of_pass {l : List GGrant} (hb : ∀ g ∈ l, InB g) {o r : Int} {v : Vector Bool 3} (h : l.foldl (pass1 o r) v = v) : ClosedV l o r v := by
  induction l generalizing v with
  | nil => intro g hg; cases hg
  | cons g l ih =>
    rw [List.foldl_cons] at h
    have h1 : pass1 o r v g = v := LeV.antisymm (by have := pass_le o r l (pass1 o r v g); rw [h] at this; exact this) (pass1_le o r v g)
    rw [h1] at h
    have hl := ih (fun x hx => hb x (List.mem_cons_of_mem _ hx)) h
    intro x hx ho h2 h3 h4
    rcases List.mem_cons.1 hx with rfl | hx
    · have hg := hb x List.mem_cons_self
      unfold pass1 at h1
      rw [if_pos ⟨ho, h2, h3, h4⟩] at h1
      rw [← h1]
      exact vrd_vwr_eq (by have := hg.t0; have := hg.t1; omega)
    · exact hl x hx ho h2 h3 h4
def cntV (v : Vector Bool 3) : Nat := (if vrd v 0 = true then 1 else 0) + (if vrd v 1 = true then 1 else 0) + (if vrd v 2 = true then 1 else 0)
theorem cnt_lt {v w : Vector Bool 3} (h : LeV v w) (hn : v ≠ w) : cntV v < cntV w := by
  have h0 := h 0 (by decide); have h1 := h 1 (by decide); have h2 := h 2 (by decide)
  have hd : ¬ (vrd v 0 = vrd w 0 ∧ vrd v 1 = vrd w 1 ∧ vrd v 2 = vrd w 2) := by
    rintro ⟨a, b, c⟩
    refine hn (vec_eq_of fun j hj => ?_)
    match j, hj with
    | 0, _ => exact a
    | 1, _ => exact b
    | 2, _ => exact c
  unfold cntV
  revert h0 h1 h2 hd
  generalize vrd v 0 = a0
  generalize vrd v 1 = a1
  generalize vrd v 2 = a2
  generalize vrd w 0 = b0
  generalize vrd w 1 = b1
  generalize vrd w 2 = b2
  revert a0 a1 a2 b0 b1 b2
  decide
theorem cnt_all {v : Vector Bool 3} (h : 3 ≤ cntV v) {j : Nat} (hj : j < 3) : vrd v j = true := by
  unfold cntV at h
  have key : vrd v 0 = true ∧ vrd v 1 = true ∧ vrd v 2 = true := by
    revert h
    generalize vrd v 0 = a0
    generalize vrd v 1 = a1
    generalize vrd v 2 = a2
    revert a0 a1 a2
    decide
  match j, hj with
  | 0, _ => exact key.1
  | 1, _ => exact key.2.1
  | 2, _ => exact key.2.2
def passF (l : List GGrant) (o r : Int) (v : Vector Bool 3) : Vector Bool 3 := l.foldl (pass1 o r) v
theorem three_closed {l : List GGrant} (hb : ∀ g ∈ l, InB g) {o r : Int} {v : Vector Bool 3} (h1 : 1 ≤ cntV v) : ClosedV l o r (l.foldl (pass1 o r) (l.foldl (pass1 o r) (l.foldl (pass1 o r) v))) := by
  show ClosedV l o r (passF l o r (passF l o r (passF l o r v)))
  have stay : ∀ w, ClosedV l o r w → passF l o r w = w := fun w h => pass_closed hb h
  have le : ∀ w, LeV w (passF l o r w) := fun w => pass_le o r l w
  have cl : ∀ w, passF l o r w = w → ClosedV l o r w := fun w h => closed_of_pass hb h
  generalize passF l o r = F at *
  have grow : ∀ w, ClosedV l o r w ∨ cntV w < cntV (F w) := by
    intro w
    by_cases h : F w = w
    · exact .inl (cl w h)
    · exact .inr (cnt_lt (le w) (Ne.symm h))
  rcases grow v with h | h
  · rw [stay _ h, stay _ h, stay _ h]; exact h
  · rcases grow (F v) with h2 | h2
    · rw [stay _ h2, stay _ h2]; exact h2
    · have hall : ∀ j, j < 3 → vrd (F (F v)) j = true := fun j hj => cnt_all (by omega) hj
      have hc : ClosedV l o r (F (F v)) := fun g hg _ _ _ _ => hall _ (by have := (hb g hg).t0; have := (hb g hg).t1; omega)
      rw [stay _ hc]; exact hc
theorem start_cnt {o : Int} (ho : 0 ≤ o ∧ o < 12) : 1 ≤ cntV (vwr (Vector.replicate 3 false) (own o).toNat true) := by
  have h := own_range ho
  obtain ⟨j, hj, e⟩ : ∃ j : Nat, j < 3 ∧ (own o).toNat = j := ⟨(own o).toNat, by omega, rfl⟩
  rw [e]
  match j, hj with
  | 0, _ => decide
  | 1, _ => decide
  | 2, _ => decide
/-- What is true is reached. -/
def SoundV (l : List GGrant) (o r : Int) (v : Vector Bool 3) : Prop := ∀ u : Int, 0 ≤ u → u < 3 → vrd v u.toNat = true → Rc l o r u
theorem pass_sound {L : List GGrant} (hb : ∀ g ∈ L, InB g) {o r : Int} : ∀ (l : List GGrant) (v : Vector Bool 3), (∀ g ∈ l, g ∈ L) → SoundV L o r v → SoundV L o r (l.foldl (pass1 o r) v)
  | [], _, _, h => h
  | g :: l, v, hm, h => by
    rw [List.foldl_cons]
    refine pass_sound hb l _ (fun x hx => hm x (List.mem_cons_of_mem _ hx)) fun u hu1 hu2 hv => ?_
    have hg := hb g (hm g List.mem_cons_self)
    have a1 := hg.f0; have a2 := hg.f1; have a3 := hg.t0; have a4 := hg.t1
    unfold pass1 at hv
    split at hv
    · rename_i hc
      by_cases hut : u = g.To
      · rw [hut]
        exact .step g (hm g List.mem_cons_self) hc.1 hc.2.1 hc.2.2.1 (h _ a1 a2 hc.2.2.2)
      · rw [vrd_vwr_ne (by omega) (by omega)] at hv
        exact h u hu1 hu2 hv
    · exact h u hu1 hu2 hv
open Classical in
/-- ref.Reached tells who is reached. -/
theorem reached_eq {l : List GGrant} (hl : l.length ≤ 96) (hb : ∀ g ∈ l, InB g) {u o r : Int} (hu : 0 ≤ u ∧ u < 3) (ho : 0 ≤ o ∧ o < 12) : g_ref_Reached l u o r = some (decide (Rc l o r u)) := by
  rw [reached_eq0 hl hb hu ho]
  congr 1
  have hor := own_range ho
  have hs0 : SoundV l o r (vwr (Vector.replicate 3 false) (own o).toNat true) := by
    intro x h1 h2 hx
    by_cases hxo : x = own o
    · rw [hxo]; exact .base
    · rw [vrd_vwr_ne (by omega) (by omega), vrd_at (by omega)] at hx
      simp at hx
  have hle0 := pass_le o r l (vwr (Vector.replicate 3 false) (own o).toNat true)
  have hs1 := pass_sound hb l _ (fun _ h => h) hs0
  have hle1 := pass_le o r l (l.foldl (pass1 o r) (vwr (Vector.replicate 3 false) (own o).toNat true))
  have hs2 := pass_sound hb l _ (fun _ h => h) hs1
  have hle2 := pass_le o r l (l.foldl (pass1 o r) (l.foldl (pass1 o r) (vwr (Vector.replicate 3 false) (own o).toNat true)))
  have hs3 := pass_sound hb l _ (fun _ h => h) hs2
  have hc := three_closed hb (o := o) (r := r) (start_cnt ho)
  generalize hw : l.foldl (pass1 o r) (l.foldl (pass1 o r) (l.foldl (pass1 o r) (vwr (Vector.replicate 3 false) (own o).toNat true))) = w at *
  have hbase : vrd w (own o).toNat = true := hle2 _ (by omega) (hle1 _ (by omega) (hle0 _ (by omega) (vrd_vwr_eq (by omega))))
  have hcomp : ∀ x, Rc l o r x → vrd w x.toNat = true := by
    intro x hx
    induction hx with
    | base => exact hbase
    | step g hg ho h1 h2 _ ih => exact hc g hg ho h1 h2 ih
  cases hv : vrd w u.toNat with
  | true => exact (decide_eq_true (hs3 u hu.1 hu.2 hv)).symm
  | false => exact (decide_eq_false fun h => by rw [hcomp u h] at hv; cases hv).symm
end Go.Proofs.Ytgbfmldbbnhefaa.VM
