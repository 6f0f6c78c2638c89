/- Words and rules that the proof uses. -/
import Derived.Test.YtcahembojhmpbaaDoorPuKOf
namespace Go.Proofs.YtcahembojhmpbaaDoor.VM
open Go Go.RowKit
theorem dor (a b : Bool) : decide (a = true ∨ b = true) = (a || b) := by cases a <;> cases b <;> rfl
theorem dand (a b : Bool) : decide (a = true ∧ b = true) = (a && b) := by cases a <;> cases b <;> rfl
def bothK (a b : Gkinds_sort) : Int := if a.kind_ = 0 then b.kind_ else a.kind_
theorem with_eq (a b : Gkinds_sort) : g_kinds_sort_with a b = some ⟨bothK a b, a.null_ || b.null_⟩ := by
 unfold g_kinds_sort_with bothK
 by_cases h : a.kind_ = 0
 ·rw [if_pos h, if_pos h, Option.bind_some, letO_eq, dor]
 ·rw [if_neg h, if_neg h, Option.bind_some, letO_eq, dor]
theorem joined_cmp {op : Int} (h : op = 9 ∨ op = 10 ∨ op = 11 ∨ op = 12 ∨ op = 13 ∨ op = 14 ∨ op = 20) (l : Vector Gkinds_sort 2) : g_kinds_joined op 2 l = some (if fitB (vrd l 0) (bothK (vrd l 0) (vrd l 1)) = true ∧ fitB (vrd l 1) (bothK (vrd l 0) (vrd l 1)) = true then (if op = 20 then (⟨bothK (vrd l 0) (vrd l 1), (vrd l 0).null_ && (vrd l 1).null_⟩, 0) else (⟨1, (vrd l 0).null_ || (vrd l 1).null_⟩, 0)) else (Gkinds_sort.zero, 2)) := by
 have key : g_kinds_joined op 2 l = ((g_kinds_sort_with (vrd l 0) (vrd l 1)).bind fun r'7 => ((g_kinds_sort_fits (vrd l 0) r'7.kind_).bind fun r'10 => (if (!r'10) = true then some true else (g_kinds_sort_fits (vrd l 1) r'7.kind_).bind fun r'11 => some (!r'11))).bind fun g'12 => (if g'12 = true then some (Gkinds_sort.zero, (2 : Int)) else (if op = (20 : Int) then letO ({ { Gkinds_sort.zero with kind_ := r'7.kind_ } with null_ := (decide ((((vrd l 0).null_) = true) ∧ (((vrd l 1).null_) = true))) }) fun t6'13 => some (t6'13, (0 : Int)) else letO ({ { Gkinds_sort.zero with kind_ := (1 : Int) } with null_ := r'7.null_ }) fun t6'14 => some (t6'14, (0 : Int))))) := by
  rcases h with rfl | rfl | rfl | rfl | rfl | rfl | rfl <;> rfl
 rw [key, with_eq, Option.bind_some]
 unfold g_kinds_sort_fits
 dsimp only
 rw [Option.bind_some, Option.bind_some, letO_eq, letO_eq, dand]
 have e0 : decide ((vrd l 0).kind_ = bothK (vrd l 0) (vrd l 1) ∨ (vrd l 0).kind_ = 0) = fitB (vrd l 0) (bothK (vrd l 0) (vrd l 1)) := rfl
 have e1 : decide ((vrd l 1).kind_ = bothK (vrd l 0) (vrd l 1) ∨ (vrd l 1).kind_ = 0) = fitB (vrd l 1) (bothK (vrd l 0) (vrd l 1)) := rfl
 rw [e0, e1]
 by_cases h0 : fitB (vrd l 0) (bothK (vrd l 0) (vrd l 1)) = true
 ·rw [h0, if_neg (by decide)]
  by_cases h1 : fitB (vrd l 1) (bothK (vrd l 0) (vrd l 1)) = true
  ·rw [h1, Option.bind_some, if_neg (by decide), if_pos (show true = true ∧ true = true from ⟨rfl, rfl⟩)]
   by_cases h2 : op = 20
   ·rw [if_pos h2, if_pos h2]
   ·rw [if_neg h2, if_neg h2]
  ·rw [Bool.eq_false_iff.2 h1, Option.bind_some, if_pos (by decide), if_neg (by simp)]
 ·rw [Bool.eq_false_iff.2 h0, if_pos (by decide), Option.bind_some, if_pos rfl, if_neg (by simp)]
section
variable {e : GExpr} {cols : List GColumn} {RP : GExpr → List GColumn → Option (Gkinds_sort × Int)} {RR : GExpr → List GColumn → Option (Int × Bool × Int)}
theorem pstep {k : Nat} (hk : k < e.Args.length) (hk2 : k < 2) {s : Gkinds_sort} {er : Int} (h : RP (lrd e.Args k) cols = some (s, er)) (l : Vector Gkinds_sort 2) : g_kinds_of_l1 e cols RP ((k : Int), l) = if er ≠ 0 then some (.inr (.inl (Gkinds_sort.zero, er))) else some (.inl (((k + 1 : Nat) : Int), vwr l k s)) := by
 unfold g_kinds_of_l1
 dsimp only
 rw [if_pos (natLt hk), if_pos (natIn hk), Int.toNat_natCast, h, Option.bind_some, if_pos (show (0 : Int) ≤ (k : Int) ∧ (k : Int) < 2 by omega), w64_succ (by omega)]
theorem pdone {k : Nat} (hk : k = e.Args.length) (l : Vector Gkinds_sort 2) : g_kinds_of_l1 e cols RP ((k : Int), l) = some (.inr (.inr l)) := by
 subst hk
 unfold g_kinds_of_l1
 dsimp only
 rw [if_neg natNlt]
theorem rstep {k : Nat} (hk : k < e.Args.length) (hk2 : k < 2) {kd : Int} {nl : Bool} (h : RR (lrd e.Args k) cols = some (kd, nl, 0)) (so al cl : Bool) (as_ : Int) : g_ref_kindOf_l0 e cols RR (so, al, as_, cl, (k : Int)) = some (.inl (so || nl, al && nl, if e.Op = 17 ∨ kd = 0 then as_ else if as_ = 0 then kd else as_, if e.Op = 17 ∨ kd = 0 then cl else (cl || decide (kd ≠ if as_ = 0 then kd else as_)), ((k + 1 : Nat) : Int))) := by
 unfold g_ref_kindOf_l0
 dsimp only
 rw [if_pos (natLt hk), if_pos (natIn hk), Int.toNat_natCast, h, Option.bind_some, if_neg (fun q => q rfl), w64_succ (by omega), dor, dand]
 by_cases h1 : e.Op = 17 ∨ kd = 0
 ·rw [if_pos h1, if_pos h1, if_pos h1]; rfl
 ·rw [if_neg h1, if_neg h1, if_neg h1]
  by_cases h2 : as_ = 0
  ·rw [if_pos h2, if_pos h2, Option.bind_some]
   simp
  ·rw [if_neg h2, if_neg h2, Option.bind_some]
   cases cl <;> simp
theorem rfail {k : Nat} (hk : k < e.Args.length) {er : Int} (he : er ≠ 0) (h : RR (lrd e.Args k) cols = some (0, false, er)) (so al cl : Bool) (as_ : Int) : g_ref_kindOf_l0 e cols RR (so, al, as_, cl, (k : Int)) = some (.inr (.inl (0, false, er))) := by
 unfold g_ref_kindOf_l0
 dsimp only
 rw [if_pos (natLt hk), if_pos (natIn hk), Int.toNat_natCast, h, Option.bind_some, if_pos he]
 rfl
theorem rdone {k : Nat} (hk : k = e.Args.length) (so al cl : Bool) (as_ : Int) : g_ref_kindOf_l0 e cols RR (so, al, as_, cl, (k : Int)) = some (.inr (.inr (so, al, as_, cl))) := by
 subst hk
 unfold g_ref_kindOf_l0
 dsimp only
 rw [if_neg natNlt]
end
def okK (f : Nat) (cols : List GColumn) (e : GExpr) : Prop := ∃ s er, g_kinds_of f e cols = some (s, er) ∧ (er = 0 → 0 ≤ s.kind_ ∧ s.kind_ ≤ 4) ∧ g_ref_kindOf f e cols = some (if er = 0 then (s.kind_, s.null_, 0) else (0, false, er))
def rep2 : Vector Gkinds_sort 2 := Vector.replicate 2 Gkinds_sort.zero
theorem one_part {f : Nat} {cols : List GColumn} {e : GExpr} (h1 : e.Op ≠ 1) (h2 : e.Op ≠ 2) (hlen : e.Args.length = 1) (A G : Int) (hA : g_ref_asksFor e.Op = some (A, G)) (hc : okK f cols (lrd e.Args 0))
  (hj : ∀ (l : Vector Gkinds_sort 2), 0 ≤ (vrd l 0).kind_ ∧ (vrd l 0).kind_ ≤ 4 → ∃ s er, g_kinds_joined e.Op 1 l = some (s, er) ∧ (er = 0 → 0 ≤ s.kind_ ∧ s.kind_ ≤ 4) ∧
   (if (if e.Op = 17 ∨ (vrd l 0).kind_ = 0 then false else (false || decide ((vrd l 0).kind_ ≠ if A = 0 then (vrd l 0).kind_ else A))) = true then some ((0 : Int), false, (2 : Int)) else (if e.Op = (17 : Int) then some ((1 : Int), false, (0 : Int)) else (if e.Op = (20 : Int) then some ((if e.Op = 17 ∨ (vrd l 0).kind_ = 0 then A else if A = 0 then (vrd l 0).kind_ else A), (true && (vrd l 0).null_), (0 : Int)) else some (G, (false || (vrd l 0).null_), (0 : Int))))) = some (if er = 0 then (s.kind_, s.null_, 0) else (0, false, er))) :
  okK (f + 1) cols e := by
 obtain ⟨s, er, hp, hb, hr⟩ := hc
 unfold okK g_kinds_of g_kinds_of_b g_ref_kindOf g_ref_kindOf_b
 rw [if_neg h1, if_neg h2, if_neg h1, if_neg h2, hA, Option.bind_some]
 by_cases he : er = 0
 ·subst he
  rw [if_pos rfl] at hr
  have p0 := pstep (e := e) (cols := cols) (RP := g_kinds_of f) (k := 0) (by omega) (by decide) hp rep2
  rw [if_neg (fun q => q rfl)] at p0
  have p1 := pdone (e := e) (cols := cols) (RP := g_kinds_of f) (k := 1) hlen.symm (vwr rep2 0 s)
  have r0 := rstep (e := e) (cols := cols) (RR := g_ref_kindOf f) (k := 0) (by omega) (by decide) hr false true false A
  have hpl := (loopO_next p0).trans (loopO_done p1)
  have hrl := (loopO_next r0).trans (loopO_done (rdone (e := e) (cols := cols) (RR := g_ref_kindOf f) (k := 1) hlen.symm _ _ _ _))
  have hv : vrd (vwr rep2 0 s) 0 = s := vrd_vwr_eq (by decide)
  obtain ⟨s', er', h3, h4, h5⟩ := hj (vwr rep2 0 s) (by rw [hv]; exact hb rfl)
  rw [hv] at h5
  refine ⟨s', er', ?_, h4, ?_⟩
  ·rw [show loopO (g_kinds_of_l1 e cols (g_kinds_of f)) ((0 : Int), (Vector.replicate 2 Gkinds_sort.zero)) = _ from hpl, Option.bind_some]
   dsimp only
   rw [hlen, show ((1 : Nat) : Int) = 1 from rfl, h3]
   rfl
  ·rw [show loopO (g_ref_kindOf_l0 e cols (g_ref_kindOf f)) (false, true, A, false, (0 : Int)) = _ from hrl, Option.bind_some]
   exact h5
 ·rw [if_neg he] at hr
  have p0 := pstep (e := e) (cols := cols) (RP := g_kinds_of f) (k := 0) (by omega) (by decide) hp rep2
  rw [if_pos he] at p0
  have r0 := rfail (e := e) (cols := cols) (RR := g_ref_kindOf f) (k := 0) (by omega) he hr false true false A
  refine ⟨Gkinds_sort.zero, er, ?_, fun h => absurd h he, ?_⟩
  ·rw [show loopO (g_kinds_of_l1 e cols (g_kinds_of f)) ((0 : Int), (Vector.replicate 2 Gkinds_sort.zero)) = _ from loopO_done p0]
   rfl
  ·rw [show loopO (g_ref_kindOf_l0 e cols (g_ref_kindOf f)) (false, true, A, false, (0 : Int)) = _ from loopO_done r0, if_neg he]
   rfl
def as1 (A k : Int) : Int := if k = 0 then A else if A = 0 then k else A
def cl1 (c : Bool) (A k : Int) : Bool := if k = 0 then c else (c || decide (k ≠ if A = 0 then k else A))
theorem two_parts {f : Nat} {cols : List GColumn} {e : GExpr} (h1 : e.Op ≠ 1) (h2 : e.Op ≠ 2) (h17 : e.Op ≠ 17) (hlen : e.Args.length = 2) (A G : Int) (hA : g_ref_asksFor e.Op = some (A, G)) (hc : okK f cols (lrd e.Args 0)) (hd : okK f cols (lrd e.Args 1))
  (hj : ∀ (l : Vector Gkinds_sort 2), 0 ≤ (vrd l 0).kind_ ∧ (vrd l 0).kind_ ≤ 4 → 0 ≤ (vrd l 1).kind_ ∧ (vrd l 1).kind_ ≤ 4 → ∃ s er, g_kinds_joined e.Op 2 l = some (s, er) ∧ (er = 0 → 0 ≤ s.kind_ ∧ s.kind_ ≤ 4) ∧
   (if cl1 (cl1 false A (vrd l 0).kind_) (as1 A (vrd l 0).kind_) (vrd l 1).kind_ = true then some ((0 : Int), false, (2 : Int)) else (if e.Op = (20 : Int) then some (as1 (as1 A (vrd l 0).kind_) (vrd l 1).kind_, ((vrd l 0).null_ && (vrd l 1).null_), (0 : Int)) else some (G, ((vrd l 0).null_ || (vrd l 1).null_), (0 : Int)))) = some (if er = 0 then (s.kind_, s.null_, 0) else (0, false, er))) :
  okK (f + 1) cols e := by
 obtain ⟨s, er, hp, hb, hr⟩ := hc
 obtain ⟨t, eq, hp2, hb2, hr2⟩ := hd
 have hor : ∀ k : Int, (e.Op = 17 ∨ k = 0) = (k = 0) := fun k => propext ⟨fun h => h.resolve_left h17, .inr⟩
 unfold okK g_kinds_of g_kinds_of_b g_ref_kindOf g_ref_kindOf_b
 rw [if_neg h1, if_neg h2, if_neg h1, if_neg h2, hA, Option.bind_some]
 by_cases he : er = 0
 ·subst he
  rw [if_pos rfl] at hr
  have p0 := pstep (e := e) (cols := cols) (RP := g_kinds_of f) (k := 0) (by omega) (by decide) hp rep2
  rw [if_neg (fun q => q rfl)] at p0
  have r0 := rstep (e := e) (cols := cols) (RR := g_ref_kindOf f) (k := 0) (by omega) (by decide) hr false true false A
  have p1 := pstep (e := e) (cols := cols) (RP := g_kinds_of f) (k := 1) (by omega) (by decide) hp2 (vwr rep2 0 s)
  by_cases hq : eq = 0
  ·subst hq
   rw [if_neg (fun q => q rfl)] at p1
   rw [if_pos rfl] at hr2
   have p2 := pdone (e := e) (cols := cols) (RP := g_kinds_of f) (k := 2) hlen.symm (vwr (vwr rep2 0 s) 1 t)
   have hpl := (loopO_next p0).trans ((loopO_next p1).trans (loopO_done p2))
   have hrl := (loopO_next r0).trans ((loopO_next (rstep (e := e) (cols := cols) (RR := g_ref_kindOf f) (k := 1) (by omega) (by decide) hr2 _ _ _ _)).trans (loopO_done (rdone (e := e) (cols := cols) (RR := g_ref_kindOf f) (k := 2) hlen.symm _ _ _ _)))
   simp only [hor] at hrl
   have hv0 : vrd (vwr (vwr rep2 0 s) 1 t) 0 = s := by rw [vrd_vwr_ne (by decide) (by decide), vrd_vwr_eq (by decide)]
   have hv1 : vrd (vwr (vwr rep2 0 s) 1 t) 1 = t := vrd_vwr_eq (by decide)
   obtain ⟨s', er', h3, h4, h5⟩ := hj (vwr (vwr rep2 0 s) 1 t) (by rw [hv0]; exact hb rfl) (by rw [hv1]; exact hb2 rfl)
   rw [hv0, hv1] at h5
   refine ⟨s', er', ?_, h4, ?_⟩
   ·rw [show loopO (g_kinds_of_l1 e cols (g_kinds_of f)) ((0 : Int), (Vector.replicate 2 Gkinds_sort.zero)) = _ from hpl, Option.bind_some]
    dsimp only
    rw [hlen, show ((2 : Nat) : Int) = 2 from rfl, h3]
    rfl
   ·rw [show loopO (g_ref_kindOf_l0 e cols (g_ref_kindOf f)) (false, true, A, false, (0 : Int)) = _ from hrl, Option.bind_some]
    dsimp only
    rw [if_neg h17, Bool.false_or, Bool.true_and]
    exact h5
  ·rw [if_pos hq] at p1
   rw [if_neg hq] at hr2
   refine ⟨Gkinds_sort.zero, eq, ?_, fun h => absurd h hq, ?_⟩
   ·rw [show loopO (g_kinds_of_l1 e cols (g_kinds_of f)) ((0 : Int), (Vector.replicate 2 Gkinds_sort.zero)) = _ from (loopO_next p0).trans (loopO_done p1)]
    rfl
   ·rw [show loopO (g_ref_kindOf_l0 e cols (g_ref_kindOf f)) (false, true, A, false, (0 : Int)) = _ from (loopO_next r0).trans (loopO_done (rfail (e := e) (cols := cols) (RR := g_ref_kindOf f) (k := 1) (by omega) hq hr2 _ _ _ _)), if_neg hq]
    rfl
 ·rw [if_neg he] at hr
  have p0 := pstep (e := e) (cols := cols) (RP := g_kinds_of f) (k := 0) (by omega) (by decide) hp rep2
  rw [if_pos he] at p0
  have r0 := rfail (e := e) (cols := cols) (RR := g_ref_kindOf f) (k := 0) (by omega) he hr false true false A
  refine ⟨Gkinds_sort.zero, er, ?_, fun h => absurd h he, ?_⟩
  ·rw [show loopO (g_kinds_of_l1 e cols (g_kinds_of f)) ((0 : Int), (Vector.replicate 2 Gkinds_sort.zero)) = _ from loopO_done p0]
   rfl
  ·rw [show loopO (g_ref_kindOf_l0 e cols (g_ref_kindOf f)) (false, true, A, false, (0 : Int)) = _ from loopO_done r0, if_neg he]
   rfl
theorem two_asks {f : Nat} {cols : List GColumn} {e : GExpr} (h1 : e.Op ≠ 1) (h2 : e.Op ≠ 2) (h17 : e.Op ≠ 17) (h20 : e.Op ≠ 20) (hlen : e.Args.length = 2) (A G : Int) (hA0 : A ≠ 0) (hG : 0 ≤ G ∧ G ≤ 4) (hA : g_ref_asksFor e.Op = some (A, G)) (hc : okK f cols (lrd e.Args 0)) (hd : okK f cols (lrd e.Args 1))
  (hj : ∀ l : Vector Gkinds_sort 2, g_kinds_joined e.Op 2 l = (g_kinds_joined_1_i0 A G l (2 : Int)).bind fun r'2 => some (r'2.1, r'2.2)) : okK (f + 1) cols e := by
 refine two_parts h1 h2 h17 hlen A G hA hc hd fun l _ _ => ?_
 rw [hj, asks_two]
 have ha : ∀ k : Int, as1 A k = A := fun k => by unfold as1; rw [if_neg hA0]; split <;> rfl
 have hcl : ∀ (c : Bool) (s : Gkinds_sort), cl1 c A s.kind_ = (c || !(fitB s A)) := by
  intro c s
  unfold cl1 fitB
  rw [if_neg hA0]
  by_cases h : s.kind_ = 0
  ·rw [if_pos h, decide_eq_true (.inr h)]; simp
  ·rw [if_neg h]
   by_cases h3 : s.kind_ = A
   ·rw [decide_eq_false (fun q => q h3), decide_eq_true (.inl h3)]; simp
   ·rw [decide_eq_true h3, decide_eq_false (fun q => q.elim h3 h)]; simp
 rw [ha, hcl, hcl, if_neg h20]
 by_cases hf0 : fitB (vrd l 0) A = true
 ·by_cases hf1 : fitB (vrd l 1) A = true
  ·rw [if_pos ⟨hf0, hf1⟩, hf0, hf1]
   exact ⟨_, 0, rfl, fun _ => hG, rfl⟩
  ·rw [if_neg (fun q => hf1 q.2), hf0, Bool.eq_false_iff.2 hf1]
   exact ⟨_, 2, rfl, fun h => absurd h (by decide), rfl⟩
 ·rw [if_neg (fun q => hf0 q.1), Bool.eq_false_iff.2 hf0]
  exact ⟨_, 2, rfl, fun h => absurd h (by decide), by simp⟩
theorem one_asks {f : Nat} {cols : List GColumn} {e : GExpr} (h1 : e.Op ≠ 1) (h2 : e.Op ≠ 2) (h17 : e.Op ≠ 17) (h20 : e.Op ≠ 20) (hlen : e.Args.length = 1) (A G : Int) (hA0 : A ≠ 0) (hG : 0 ≤ G ∧ G ≤ 4) (hA : g_ref_asksFor e.Op = some (A, G)) (hc : okK f cols (lrd e.Args 0))
  (hj : ∀ l : Vector Gkinds_sort 2, g_kinds_joined e.Op 1 l = (g_kinds_joined_1_i0 A G l (1 : Int)).bind fun r'2 => some (r'2.1, r'2.2)) : okK (f + 1) cols e := by
 refine one_part h1 h2 hlen A G hA hc fun l _ => ?_
 rw [hj, asks_one, if_neg h17, if_neg h20]
 by_cases hf0 : fitB (vrd l 0) A = true
 ·rw [if_pos hf0, if_neg (by
   unfold fitB at hf0
   have := of_decide_eq_true hf0
   split
   ·decide
   ·rename_i h3
    try rw [if_neg hA0]
    rw [decide_eq_false (fun q => q (this.resolve_right (fun h => h3 (.inr h))))]
    decide)]
  exact ⟨_, 0, rfl, fun _ => hG, rfl⟩
 ·rw [if_neg hf0, if_pos (by
   unfold fitB at hf0
   have h3 : ¬ ((vrd l 0).kind_ = A ∨ (vrd l 0).kind_ = 0) := fun h => hf0 (decide_eq_true h)
   rw [if_neg (fun h => h.elim h17 (fun h => h3 (.inr h))), if_neg hA0, decide_eq_true (show (vrd l 0).kind_ ≠ A from fun h => h3 (.inl h))]
   rfl)]
  exact ⟨_, 2, rfl, fun h => absurd h (by decide), rfl⟩
theorem cl_int (x y : Int) : cl1 (cl1 false 0 x) (as1 0 x) y = !(decide (x = (if x = 0 then y else x) ∨ x = 0) && decide (y = (if x = 0 then y else x) ∨ y = 0)) := by
 unfold cl1 as1
 by_cases h0 : x = 0
 ·by_cases h1 : y = 0
  ·simp [h0, h1]
  ·simp [h0, h1]
 ·by_cases h1 : y = 0
  ·simp [h0, h1]
  ·by_cases h2 : y = x
   ·simp [h0, h2]
   ·simp [h0, h1, h2]
theorem cmp_parts {f : Nat} {cols : List GColumn} {e : GExpr} (hop : e.Op = 9 ∨ e.Op = 10 ∨ e.Op = 11 ∨ e.Op = 12 ∨ e.Op = 13 ∨ e.Op = 14 ∨ e.Op = 20) (hlen : e.Args.length = 2) (G : Int) (hG : e.Op ≠ 20 → G = 1) (hA : g_ref_asksFor e.Op = some (0, G)) (hc : okK f cols (lrd e.Args 0)) (hd : okK f cols (lrd e.Args 1)) : okK (f + 1) cols e := by
 refine two_parts (by omega) (by omega) (by omega) hlen 0 G hA hc hd fun l hb0 hb1 => ?_
 rw [joined_cmp hop]
 have ha : as1 (as1 0 (vrd l 0).kind_) (vrd l 1).kind_ = bothK (vrd l 0) (vrd l 1) := by
  unfold as1 bothK
  by_cases h0 : (vrd l 0).kind_ = 0
  ·rw [if_pos h0, if_pos h0]
   by_cases h1 : (vrd l 1).kind_ = 0
   ·rw [if_pos h1, h1]
   ·rw [if_neg h1, if_pos rfl]
  ·rw [if_neg h0, if_neg h0, if_pos rfl]
   by_cases h1 : (vrd l 1).kind_ = 0
   ·rw [if_pos h1]
   ·rw [if_neg h1, if_neg h0]
 have hcl : cl1 (cl1 false 0 (vrd l 0).kind_) (as1 0 (vrd l 0).kind_) (vrd l 1).kind_ = !(fitB (vrd l 0) (bothK (vrd l 0) (vrd l 1)) && fitB (vrd l 1) (bothK (vrd l 0) (vrd l 1))) := by
  exact cl_int _ _
 rw [ha, hcl]
 have hbK : 0 ≤ bothK (vrd l 0) (vrd l 1) ∧ bothK (vrd l 0) (vrd l 1) ≤ 4 := by
  unfold bothK
  split
  ·exact hb1
  ·exact hb0
 by_cases hf0 : fitB (vrd l 0) (bothK (vrd l 0) (vrd l 1)) = true
 ·by_cases hf1 : fitB (vrd l 1) (bothK (vrd l 0) (vrd l 1)) = true
  ·rw [if_pos ⟨hf0, hf1⟩, hf0, hf1]
   by_cases h20 : e.Op = 20
   ·rw [if_pos h20, if_pos h20]
    exact ⟨_, 0, rfl, fun _ => hbK, rfl⟩
   ·rw [if_neg h20, if_neg h20, hG h20]
    exact ⟨_, 0, rfl, fun _ => show (0 : Int) ≤ 1 ∧ (1 : Int) ≤ 4 by decide, rfl⟩
  ·rw [if_neg (fun q => hf1 q.2), hf0, Bool.eq_false_iff.2 hf1]
   exact ⟨_, 2, rfl, fun h => absurd h (by decide), rfl⟩
 ·rw [if_neg (fun q => hf0 q.1), Bool.eq_false_iff.2 hf0]
  exact ⟨_, 2, rfl, fun h => absurd h (by decide), rfl⟩
theorem kind_eq {cols : List GColumn} (hl : cols.length < 9223372036854775807) (hf : colsFine cols) : ∀ (m f : Nat) (e : GExpr), m < f → goodE m e → okK f cols e
 | _, 0, _, h, _ => by omega
 | 0, _, _, _, h => h.elim
 | m + 1, f + 1, e, hmf, hg => by
  obtain ⟨hop, hw, hlit, hargs⟩ := hg
  by_cases h1 : e.Op = 1
  ·unfold okK g_kinds_of g_kinds_of_b g_ref_kindOf g_ref_kindOf_b
   rw [if_pos h1, if_pos h1, letO_eq]
   exact ⟨_, 0, rfl, fun _ => hlit h1, rfl⟩
  ·by_cases h2 : e.Op = 2
   ·unfold okK g_kinds_of g_kinds_of_b g_ref_kindOf g_ref_kindOf_b
    rw [if_neg h1, if_pos h2, if_neg h1, if_pos h2]
    obtain ⟨r, h3, h4⟩ := of_col e cols hl
    rw [h3, Option.bind_some]
    rcases colAt cols e.Name hl with ⟨i, hi, hni, hc⟩ | ⟨hno, hc⟩
    ·rcases h4 with ⟨j, hj, hnj, rfl⟩ | ⟨hno, _⟩
     ·have hij : j = i := hf.once j i hj hi (hnj.trans hni.symm)
      subst hij
      rw [hc, Option.bind_some, if_neg (by omega), if_pos (natIn hi), if_pos (natIn hi), Int.toNat_natCast]
      have := hf.kinds j hi
      exact ⟨_, 0, rfl, fun _ => ⟨by dsimp only; omega, this.2⟩, rfl⟩
     ·exact absurd hni (hno i hi)
    ·rcases h4 with ⟨j, hj, hnj, _⟩ | ⟨_, rfl⟩
     ·exact absurd hnj (hno j hj)
     ·rw [hc, Option.bind_some, if_pos (by decide)]
      exact ⟨_, 5, rfl, fun h => absurd h (by decide), rfl⟩
   ·have hk : ∀ k, k < e.Args.length → okK f cols (lrd e.Args k) := fun k hk => kind_eq hl hf m f _ (by omega) (hargs k hk)
    have hops : e.Op = 3 ∨ e.Op = 4 ∨ e.Op = 5 ∨ e.Op = 6 ∨ e.Op = 7 ∨ e.Op = 8 ∨ e.Op = 9 ∨ e.Op = 10 ∨ e.Op = 11 ∨ e.Op = 12 ∨ e.Op = 13 ∨ e.Op = 14 ∨ e.Op = 15 ∨ e.Op = 16 ∨ e.Op = 17 ∨ e.Op = 18 ∨ e.Op = 19 ∨ e.Op = 20 := by omega
    have len1 : ∀ {op : Int}, e.Op = op → g_expr_wants op = some 1 → e.Args.length = 1 := by
     intro op h3 h4
     rw [h3, h4] at hw
     have := Option.some.inj hw
     omega
    have len2 : ∀ {op : Int}, e.Op = op → g_expr_wants op = some 2 → e.Args.length = 2 := by
     intro op h3 h4
     rw [h3, h4] at hw
     have := Option.some.inj hw
     omega
    have A1 : ∀ (op A G : Int), e.Op = op → op ≠ 17 → op ≠ 20 → g_expr_wants op = some 1 → A ≠ 0 → 0 ≤ G ∧ G ≤ 4 → g_ref_asksFor op = some (A, G) → (∀ l : Vector Gkinds_sort 2, g_kinds_joined op 1 l = (g_kinds_joined_1_i0 A G l (1 : Int)).bind fun r'2 => some (r'2.1, r'2.2)) → okK (f + 1) cols e := by
     intro op A G h3 h17 h20 h4 h5 h6 h7 h8
     have hlen := len1 h3 h4
     subst h3
     exact one_asks h1 h2 h17 h20 hlen A G h5 h6 h7 (hk 0 (by omega)) h8
    have A2 : ∀ (op A G : Int), e.Op = op → op ≠ 17 → op ≠ 20 → g_expr_wants op = some 2 → A ≠ 0 → 0 ≤ G ∧ G ≤ 4 → g_ref_asksFor op = some (A, G) → (∀ l : Vector Gkinds_sort 2, g_kinds_joined op 2 l = (g_kinds_joined_1_i0 A G l (2 : Int)).bind fun r'2 => some (r'2.1, r'2.2)) → okK (f + 1) cols e := by
     intro op A G h3 h17 h20 h4 h5 h6 h7 h8
     have hlen := len2 h3 h4
     subst h3
     exact two_asks h1 h2 h17 h20 hlen A G h5 h6 h7 (hk 0 (by omega)) (hk 1 (by omega)) h8
    have A3 : ∀ (op G : Int), e.Op = op → (op = 9 ∨ op = 10 ∨ op = 11 ∨ op = 12 ∨ op = 13 ∨ op = 14 ∨ op = 20) → g_expr_wants op = some 2 → (op ≠ 20 → G = 1) → g_ref_asksFor op = some (0, G) → okK (f + 1) cols e := by
     intro op G h3 h4 h5 h6 h7
     have hlen := len2 h3 h5
     subst h3
     exact cmp_parts h4 hlen G h6 h7 (hk 0 (by omega)) (hk 1 (by omega))
    rcases hops with h | h | h | h | h | h | h | h | h | h | h | h | h | h | h | h | h | h
    ·exact A1 3 2 2 h (by decide) (by decide) rfl (by decide) (by decide) rfl (fun _ => rfl)
    ·exact A1 4 1 1 h (by decide) (by decide) rfl (by decide) (by decide) rfl (fun _ => rfl)
    ·exact A2 5 2 2 h (by decide) (by decide) rfl (by decide) (by decide) rfl (fun _ => rfl)
    ·exact A2 6 2 2 h (by decide) (by decide) rfl (by decide) (by decide) rfl (fun _ => rfl)
    ·exact A2 7 2 2 h (by decide) (by decide) rfl (by decide) (by decide) rfl (fun _ => rfl)
    ·exact A2 8 2 2 h (by decide) (by decide) rfl (by decide) (by decide) rfl (fun _ => rfl)
    ·exact A3 9 1 h (by decide) rfl (fun _ => rfl) rfl
    ·exact A3 10 1 h (by decide) rfl (fun _ => rfl) rfl
    ·exact A3 11 1 h (by decide) rfl (fun _ => rfl) rfl
    ·exact A3 12 1 h (by decide) rfl (fun _ => rfl) rfl
    ·exact A3 13 1 h (by decide) rfl (fun _ => rfl) rfl
    ·exact A3 14 1 h (by decide) rfl (fun _ => rfl) rfl
    ·exact A2 15 1 1 h (by decide) (by decide) rfl (by decide) (by decide) rfl (fun _ => rfl)
    ·exact A2 16 1 1 h (by decide) (by decide) rfl (by decide) (by decide) rfl (fun _ => rfl)
    ·have hlen := len1 h rfl
     refine one_part h1 h2 hlen 0 1 (by rw [h]; rfl) (hk 0 (by omega)) fun l _ => ?_
     rw [h]
     refine ⟨⟨1, false⟩, 0, rfl, fun _ => by decide, ?_⟩
     rw [if_neg (by simp), if_pos rfl]
     rfl
    ·exact A1 18 4 2 h (by decide) (by decide) rfl (by decide) (by decide) rfl (fun _ => rfl)
    ·exact A2 19 4 4 h (by decide) (by decide) rfl (by decide) (by decide) rfl (fun _ => rfl)
    ·exact A3 20 0 h (by decide) rfl (fun q => absurd rfl q) rfl
theorem of_eq {e : GExpr} {cols : List GColumn} (q : GExpr.ok e) (hl : cols.length < 9223372036854775807) (hc : ∀ c ∈ cols, c.Name.length < 9223372036854775807) : ∃ r, g_kinds_Of e cols = some r ∧ g_ref_KindOf e cols = some r ∧ (r.2.2 = 0 → 0 ≤ r.1 ∧ r.1 ≤ 4) := by
 unfold g_kinds_Of g_ref_KindOf
 obtain ⟨x, h1, h2⟩ := expr_eq q
 rw [h1, h2, Option.bind_some, Option.bind_some]
 by_cases hx : x ≠ 0
 ·rw [if_pos hx, if_pos hx]; exact ⟨_, rfl, rfl, fun h => absurd h hx⟩
 ·rw [if_neg hx, if_neg hx]
  obtain ⟨y, h3, h4⟩ := cols_eq cols hl hc
  rw [h3, h4, Option.bind_some, Option.bind_some]
  by_cases hy : y ≠ 0
  ·rw [if_pos hy, if_pos hy]; exact ⟨_, rfl, rfl, fun h => absurd h hy⟩
  ·rw [if_neg hy, if_neg hy]
   have hx0 : x = 0 := by omega
   have hy0 : y = 0 := by omega
   rw [hx0] at h1
   rw [hy0] at h3
   obtain ⟨s, er, h5, h6, h7⟩ := kind_eq hl (cols_fine hl hc h3) 7 100000 e (by decide) (check_good q h1)
   rw [h5, h7, Option.bind_some, Option.bind_some]
   by_cases he : er = 0
   ·subst he
    exact ⟨_, rfl, rfl, fun _ => h6 rfl⟩
   ·simp only [if_neg he, if_pos (show er ≠ 0 from he)]
    exact ⟨_, rfl, rfl, fun h => absurd h he⟩
theorem cond_eq {e : GExpr} {cols : List GColumn} (q : GExpr.ok e) (hl : cols.length < 9223372036854775807) (hc : ∀ c ∈ cols, c.Name.length < 9223372036854775807) : ∃ r, g_table_Condition e cols = some r ∧ g_ref_ConditionFault e cols = some r := by
 unfold g_table_Condition g_ref_ConditionFault g_table_none g_ref_noExpr
 rw [Option.bind_some, Option.bind_some]
 have hsame : decide ((((e.Op = (0 : Int)) ∧ (e.Value = GValue.zero)) ∧ (e.Name = [])) ∧ ((e.Args.length : Int) = (0 : Int))) = decide ((((e.Op = (0 : Int)) ∧ (e.Name = [])) ∧ (e.Value = GValue.zero)) ∧ ((e.Args.length : Int) = (0 : Int))) := by
  refine decide_eq_decide.2 ⟨fun h => ⟨⟨⟨h.1.1.1, h.1.2⟩, h.1.1.2⟩, h.2⟩, fun h => ⟨⟨⟨h.1.1.1, h.1.2⟩, h.1.1.2⟩, h.2⟩⟩
 rw [hsame]
 by_cases hn : decide ((((e.Op = (0 : Int)) ∧ (e.Name = [])) ∧ (e.Value = GValue.zero)) ∧ ((e.Args.length : Int) = (0 : Int))) = true
 ·rw [if_pos hn, if_pos hn]
  obtain ⟨y, h3, h4⟩ := cols_eq cols hl hc
  rw [h3, h4]
  exact ⟨_, rfl, rfl⟩
 ·rw [if_neg hn, if_neg hn]
  obtain ⟨r, h1, h2, h3⟩ := of_eq q hl hc
  rw [h1, h2, Option.bind_some, Option.bind_some]
  by_cases he : r.2.2 = 0
  ·have hb := h3 he
   have hne : ¬ r.2.2 ≠ 0 := fun q => q he
   by_cases hk : r.1 > 1
   ·rw [if_pos (show ((r.2.2 = 0) ∧ (r.1 ≠ 1)) ∧ (r.1 ≠ 0) from ⟨⟨he, by omega⟩, by omega⟩), if_neg hne, if_pos hk]; exact ⟨_, rfl, rfl⟩
   ·rw [if_neg (show ¬ (((r.2.2 = 0) ∧ (r.1 ≠ 1)) ∧ (r.1 ≠ 0)) by omega), if_neg hne, if_neg hk, he]; exact ⟨_, rfl, rfl⟩
  ·rw [if_neg (show ¬ (((r.2.2 = 0) ∧ (r.1 ≠ 1)) ∧ (r.1 ≠ 0)) from fun q => he q.1.1), if_pos he]; exact ⟨_, rfl, rfl⟩
end Go.Proofs.YtcahembojhmpbaaDoor.VM
