/- Words and rules that the proof uses. -/
import Derived.Test.YtcahembojhmpbaaDoorPuStmt
namespace Go.Proofs.YtcahembojhmpbaaDoor.VM
open Go Go.RowKit
structure CmdOk (c : GCommand) : Prop where
 tab : c.Table.length < 9223372036854775807
 cols : c.Cols.length < 9223372036854775807
 coln : ∀ x ∈ c.Cols, x.Name.length < 9223372036854775807
 row : c.Row.length < 9223372036854775807
 rowi : ∀ x ∈ c.Row, okI x.Int_
 sets : c.Sets.length < 9223372036854775807
 setn : ∀ x ∈ c.Sets, x.Col.length < 9223372036854775807
 sete : ∀ x ∈ c.Sets, GExpr.ok x.Expr
 whr : GExpr.ok c.Where
 qwhr : GExpr.ok c.Query.Where
 grp : c.Query.Group.length < 9223372036854775807
 items : c.Query.Items.length < 9223372036854775807
 iteme : ∀ x ∈ c.Query.Items, GExpr.ok x.Expr
 sorts : c.Query.Sorts.length < 9223372036854775807
theorem lenL {B n : Nat} (hB : 0 < B) (h : n * B ≤ reachBytes) : n < 9223372036854775807 := Nat.lt_of_le_of_lt (Nat.le_mul_of_pos_right _ hB) (Nat.lt_of_le_of_lt h (by decide))
theorem cmd_ok {c : GCommand} (q : GCommand.ok c) : CmdOk c := by
 obtain ⟨_, _, h1, _, h2, h3, h4, h5, ⟨h6, h7, h8, h9, _⟩, _⟩ := q
 exact ⟨Nat.lt_of_le_of_lt h1 (by decide), lenL (by decide) h2.1, fun x hx => Nat.lt_of_le_of_lt (h2.2.2 x hx).1 (by decide), lenL (by decide) h3.1, fun x hx => (h3.2.2 x hx).2.1, lenL (by decide) h4.1, fun x hx => Nat.lt_of_le_of_lt (h4.2.2 x hx).1 (by decide), fun x hx => (h4.2.2 x hx).2, h5, h7, Nat.lt_of_le_of_lt h8 (by decide), lenL (by decide) h6.1, fun x hx => (h6.2.2 x hx).2, lenL (by decide) h9.1⟩
noncomputable def slimB (e : GExpr) : Bool := decide (xE e ≠ 1)
theorem slim_eq {e : GExpr} (q : GExpr.ok e) : g_stmt_slim e = some (slimB e) := by
 unfold g_stmt_slim slimB
 rw [(xE_eq q).1]
 rfl
def bigB (c : GCommand) : Bool := decide ((((((c.Cols.length : Int) > (5 : Int)) ∨ ((c.Row.length : Int) > (5 : Int))) ∨ ((c.Sets.length : Int) > (4 : Int))) ∨ ((c.Query.Items.length : Int) > (4 : Int))) ∨ ((c.Query.Sorts.length : Int) > (4 : Int)))
noncomputable def slimAll (c : GCommand) : Bool := ((slimB c.Where && slimB c.Query.Where) && c.Sets.all fun s => slimB s.Expr) && c.Query.Items.all fun s => slimB s.Expr
theorem stSmall_eq {c : GCommand} (q : CmdOk c) : g_stmt_small c = some (!(bigB c) && slimAll c) := by
 have l0 : ∀ b, loopO (g_stmt_small_l0 c) (b, (0 : Int)) = some (b && c.Sets.all fun s => slimB s.Expr) := and_loop c.Sets (fun s => slimB s.Expr) q.sets (fun k b hk => by
  unfold g_stmt_small_l0
  dsimp only
  rw [if_pos (natLt hk), if_pos (natIn hk), Int.toNat_natCast, slim_eq (q.sete _ (lrd_mem hk))]
  simp only [Option.bind_some, ifand]) (fun b => by
  unfold g_stmt_small_l0
  dsimp only
  rw [if_neg natNlt])
 have l1 : ∀ b, loopO (g_stmt_small_l1 c) (b, (0 : Int)) = some (b && c.Query.Items.all fun s => slimB s.Expr) := and_loop c.Query.Items (fun s => slimB s.Expr) q.items (fun k b hk => by
  unfold g_stmt_small_l1
  dsimp only
  rw [if_pos (natLt hk), if_pos (natIn hk), Int.toNat_natCast, slim_eq (q.iteme _ (lrd_mem hk))]
  simp only [Option.bind_some, ifand]) (fun b => by
  unfold g_stmt_small_l1
  dsimp only
  rw [if_neg natNlt])
 have hb : decide ((((((c.Cols.length : Int) > (5 : Int)) ∨ ((c.Row.length : Int) > (5 : Int))) ∨ ((c.Sets.length : Int) > (4 : Int))) ∨ ((c.Query.Items.length : Int) > (4 : Int))) ∨ ((c.Query.Sorts.length : Int) > (4 : Int))) = bigB c := rfl
 unfold g_stmt_small
 rw [letO_eq, hb, slim_eq q.whr, slim_eq q.qwhr]
 simp only [Option.bind_some, ifand, l0, l1]
 unfold slimAll
 cases bigB c <;> rfl
theorem is_eq (l : List Int) (c : GCommand) (hl : l.length < 9223372036854775807) : g_stmt_sober_1_i0 l c = some (l.any fun k => decide (k = c.Kind)) := by
 have h := any_loop (step := g_stmt_sober_1_i0_l0 l c) l (fun k => decide (k = c.Kind)) (.inl true) (.inr ()) hl (fun k hk => by
  unfold g_stmt_sober_1_i0_l0
  dsimp only
  rw [if_pos (natLt hk), if_pos (natIn hk), Int.toNat_natCast]
  by_cases h : lrd l k = c.Kind
  ·rw [if_pos h, if_pos (decide_eq_true h)]
  ·rw [if_neg h, if_neg (by rw [decide_eq_false h]; decide)]) (by
  unfold g_stmt_sober_1_i0_l0
  dsimp only
  rw [if_neg natNlt])
 unfold g_stmt_sober_1_i0
 rw [h]
 cases l.any fun k => decide (k = c.Kind) <;> rfl
def askB (q : GQuery) : Bool := decide ((q.Items.length : Int) > (0 : Int)) || (!(noE q.Where) || (decide (q.Group ≠ []) || (decide ((q.Sorts.length : Int) > (0 : Int)) || (q.Cut || decide (q.Most ≠ (0 : Int))))))
def sobB (c : GCommand) : Bool :=
 (!decide (c.Kind = 1) || decide (c.Owner = 0)) && ((!(decide (c.Kind = 1) || decide (c.Kind = 5)) || decide (c.Drawer = 0)) && ((decide (c.Kind = 1) || decide ((c.Cols.length : Int) = 0)) && ((decide (c.Kind = 2) || decide ((c.Row.length : Int) = 0)) && ((decide (c.Kind = 3) || decide ((c.Sets.length : Int) = 0)) && (((decide (c.Kind = 3) || decide (c.Kind = 4)) || noE c.Where) && ((decide (c.Kind = 5) || !(askB c.Query)) && (((decide (c.Kind = 6) || decide (c.Kind = 7)) || (decide (c.To = 0) && decide (c.Right = 0))) && (decide (c.Kind = 6) || !c.Option_))))))))
theorem sober_eq (c : GCommand) : g_stmt_sober c = some (sobB c) := by
 have e1 : ∀ a : Int, decide (a = c.Kind) = decide (c.Kind = a) := fun a => decide_eq_decide.2 ⟨Eq.symm, Eq.symm⟩
 have i1 : ∀ a : Int, g_stmt_sober_1_i0 ([a] : List Int) c = some (decide (c.Kind = a)) := fun a => by
  rw [is_eq [a] c (by rw [List.length_singleton]; decide), List.any_cons, List.any_nil, Bool.or_false, e1]
 have i2 : ∀ a b : Int, g_stmt_sober_1_i0 ([a, b] : List Int) c = some (decide (c.Kind = a) || decide (c.Kind = b)) := fun a b => by
  rw [is_eq [a, b] c (by simp only [List.length_cons, List.length_nil]; decide), List.any_cons, List.any_cons, List.any_nil, Bool.or_false, e1, e1]
 unfold g_stmt_sober sobB askB
 simp only [i1, i2, (noE_eq _).1, Option.bind_some, ifor, ifand, ifandP, Bool.decide_eq_true, iforP, Bool.and_assoc]
noncomputable def colB (k : GColumn) : Bool := nmOk k.Name && (decide (k.Kind ≥ 1) && decide (k.Kind ≤ 4))
noncomputable def valB (v : GValue) : Bool := decide (vE v = 0) && decide (v.Int_ ≠ (-9223372036854775808 : Int))
noncomputable def setB (s : GSet) : Bool := nmOk s.Col && decide (xE s.Expr = 0)
noncomputable def itB (it : GItem) : Bool := decide (it.Agg ≥ (0 : Int)) && (decide (it.Agg ≤ (4 : Int)) && ((decide (it.Agg = (1 : Int)) && noE it.Expr) || (decide (it.Agg ≠ (1 : Int)) && decide (xE it.Expr = 0))))
def srB (s : GSort) : Bool := decide (s.Item ≥ (0 : Int))
noncomputable def qryB (q : GQuery) : Bool := (decide ((q.Items.length : Int) > (0 : Int)) && (whOk q.Where && ((decide (q.Group = []) || nmOk q.Group) && (decide (q.Most ≥ (0 : Int)) && (q.Cut || decide (q.Most = (0 : Int))))))) && (q.Items.all itB && q.Sorts.all srB)
theorem f_cols {c : GCommand} (q : CmdOk c) : loopO (g_stmt_formed_l0 c) (0 : Int) = some (if c.Cols.all colB = true then .inr () else .inl false) ∧ ∀ b, loopO (g_ref_CommandFault_l1 c) (b, (0 : Int)) = some (b && c.Cols.all colB) := by
 refine ⟨any_eq c.Cols colB q.cols (fun k hk => ?_) ?_, and_loop c.Cols colB q.cols (fun k b hk => ?_) (fun b => ?_)⟩
 ·unfold g_stmt_formed_l0 colB
  dsimp only
  rw [if_pos (natLt hk), if_pos (natIn hk), Int.toNat_natCast, (nm_eq (q.coln _ (lrd_mem hk))).1, Option.bind_some]
  generalize (lrd c.Cols k).Kind = n
  cases nmOk (lrd c.Cols k).Name
  ·rfl
  ·by_cases h : n ≥ 1 ∧ n ≤ 4
   ·rw [if_neg (by simp; omega), decide_eq_true h.1, decide_eq_true h.2]; rfl
   ·rw [if_pos (by simp; omega)]
    have : (true && (decide (n ≥ 1) && decide (n ≤ 4))) = false := by
     rw [Bool.true_and, ← Bool.decide_and]; exact decide_eq_false h
    rw [this]; rfl
 ·unfold g_stmt_formed_l0
  dsimp only
  rw [if_neg natNlt]
 ·unfold g_ref_CommandFault_l1 colB
  dsimp only
  rw [if_pos (natLt hk), if_pos (natIn hk), Int.toNat_natCast, (nm_eq (q.coln _ (lrd_mem hk))).2]
  simp only [Option.bind_some, ifand, ifandP, Bool.decide_eq_true]
 ·unfold g_ref_CommandFault_l1
  dsimp only
  rw [if_neg natNlt]
theorem f_row {c : GCommand} (q : CmdOk c) : loopO (g_stmt_formed_l1 c) (0 : Int) = some (if c.Row.all valB = true then .inr () else .inl false) ∧ ∀ b, loopO (g_ref_CommandFault_l2 c) (b, (0 : Int)) = some (b && c.Row.all valB) := by
 refine ⟨any_eq c.Row valB q.row (fun k hk => ?_) ?_, and_loop c.Row valB q.row (fun k b hk => ?_) (fun b => ?_)⟩
 ·unfold g_stmt_formed_l1 valB
  dsimp only
  rw [if_pos (natLt hk), if_pos (natIn hk), Int.toNat_natCast, (vE_eq (q.rowi _ (lrd_mem hk))).1, Option.bind_some]
  by_cases h : vE (lrd c.Row k) = 0 ∧ (lrd c.Row k).Int_ ≠ (-9223372036854775808 : Int)
  ·rw [if_neg (by omega), decide_eq_true h.1, decide_eq_true h.2]; rfl
  ·rw [if_pos (by omega), ← Bool.decide_and, decide_eq_false h]; rfl
 ·unfold g_stmt_formed_l1
  dsimp only
  rw [if_neg natNlt]
 ·unfold g_ref_CommandFault_l2 valB
  dsimp only
  rw [if_pos (natLt hk), if_pos (natIn hk), Int.toNat_natCast, (vE_eq (q.rowi _ (lrd_mem hk))).2]
  simp only [Option.bind_some, ifand, ifandP, Bool.decide_eq_true]
 ·unfold g_ref_CommandFault_l2
  dsimp only
  rw [if_neg natNlt]
theorem f_sets {c : GCommand} (q : CmdOk c) : loopO (g_stmt_formed_l2 c) (0 : Int) = some (if c.Sets.all setB = true then .inr () else .inl false) ∧ ∀ b, loopO (g_ref_CommandFault_l3 c) (b, (0 : Int)) = some (b && c.Sets.all setB) := by
 refine ⟨any_eq c.Sets setB q.sets (fun k hk => ?_) ?_, and_loop c.Sets setB q.sets (fun k b hk => ?_) (fun b => ?_)⟩
 ·unfold g_stmt_formed_l2 setB
  dsimp only
  rw [if_pos (natLt hk), if_pos (natIn hk), Int.toNat_natCast, (nm_eq (q.setn _ (lrd_mem hk))).1, (xE_eq (q.sete _ (lrd_mem hk))).1]
  simp only [Option.bind_some, ifor]
  by_cases h : xE (lrd c.Sets k).Expr = 0
  ·rw [decide_eq_true h, decide_eq_false (fun h2 => h2 h)]
   cases nmOk (lrd c.Sets k).Col <;> rfl
  ·rw [decide_eq_false h, decide_eq_true (show xE (lrd c.Sets k).Expr ≠ 0 from h)]
   cases nmOk (lrd c.Sets k).Col <;> rfl
 ·unfold g_stmt_formed_l2
  dsimp only
  rw [if_neg natNlt]
 ·unfold g_ref_CommandFault_l3 setB
  dsimp only
  rw [if_pos (natLt hk), if_pos (natIn hk), Int.toNat_natCast, (nm_eq (q.setn _ (lrd_mem hk))).2, (xE_eq (q.sete _ (lrd_mem hk))).2.1]
  simp only [Option.bind_some, ifand]
 ·unfold g_ref_CommandFault_l3
  dsimp only
  rw [if_neg natNlt]
theorem f_items {c : GCommand} (q : CmdOk c) : loopO (g_stmt_asked_l0 c.Query) (0 : Int) = some (if c.Query.Items.all itB = true then .inr () else .inl false) ∧ ∀ b, loopO (g_ref_mayQuery_l0 c.Query) (b, (0 : Int)) = some (b && c.Query.Items.all itB) := by
 refine ⟨any_eq c.Query.Items itB q.items (fun k hk => ?_) ?_, and_loop c.Query.Items itB q.items (fun k b hk => ?_) (fun b => ?_)⟩
 ·unfold g_stmt_asked_l0 itB
  dsimp only
  rw [if_pos (natLt hk), if_pos (natIn hk), Int.toNat_natCast, (noE_eq _).1, (xE_eq (q.iteme _ (lrd_mem hk))).1]
  generalize (lrd c.Query.Items k).Agg = n
  generalize noE (lrd c.Query.Items k).Expr = b
  generalize xE (lrd c.Query.Items k).Expr = x
  by_cases h1 : n = 1
  ·subst h1
   cases b <;> simp
  ·by_cases h2 : n = 0 ∨ n = 2 ∨ n = 3 ∨ n = 4
   ·by_cases hx : x = 0
    ·subst hx
     rcases h2 with rfl | rfl | rfl | rfl <;> simp
    ·rcases h2 with rfl | rfl | rfl | rfl <;> simp [hx]
   ·have h3 : n ≠ 0 ∧ n ≠ 2 ∧ n ≠ 3 ∧ n ≠ 4 := ⟨fun h => h2 (.inl h), fun h => h2 (.inr (.inl h)), fun h => h2 (.inr (.inr (.inl h))), fun h => h2 (.inr (.inr (.inr h)))⟩
    have h4 : (decide (n ≥ (0 : Int)) && (decide (n ≤ (4 : Int)) && ((decide (n = (1 : Int)) && b) || (decide (n ≠ (1 : Int)) && decide (x = 0))))) = false := by
     by_cases h5 : n ≥ 0
     ·rw [decide_eq_false (show ¬ n ≤ 4 by omega), Bool.false_and, Bool.and_false]
     ·rw [decide_eq_false h5, Bool.false_and]
    rw [h4]
    simp [h1, h3.1, h3.2.1, h3.2.2.1, h3.2.2.2]
 ·unfold g_stmt_asked_l0
  dsimp only
  rw [if_neg natNlt]
 ·unfold g_ref_mayQuery_l0 itB
  dsimp only
  rw [if_pos (natLt hk), if_pos (natIn hk), Int.toNat_natCast, (noE_eq _).2, (xE_eq (q.iteme _ (lrd_mem hk))).2.1]
  generalize (lrd c.Query.Items k).Agg = n
  generalize noE (lrd c.Query.Items k).Expr = e
  generalize xE (lrd c.Query.Items k).Expr = x
  by_cases h1 : n = 1
  ·subst h1
   cases b <;> cases e <;> simp
  ·simp only [Option.bind_some, if_neg h1, ifand, ifandP, Bool.decide_eq_true, decide_eq_false h1, Bool.false_and, Bool.false_or]
 ·unfold g_ref_mayQuery_l0
  dsimp only
  rw [if_neg natNlt]
theorem f_sorts {c : GCommand} (q : CmdOk c) : loopO (g_stmt_asked_l1 c.Query) (0 : Int) = some (if c.Query.Sorts.all srB = true then .inr () else .inl false) ∧ ∀ b, loopO (g_ref_mayQuery_l1 c.Query) (b, (0 : Int)) = some (b && c.Query.Sorts.all srB) := by
 refine ⟨any_eq c.Query.Sorts srB q.sorts (fun k hk => ?_) ?_, and_loop c.Query.Sorts srB q.sorts (fun k b hk => ?_) (fun b => ?_)⟩
 ·unfold g_stmt_asked_l1 srB
  dsimp only
  rw [if_pos (natLt hk), if_pos (natIn hk), Int.toNat_natCast]
  by_cases h : (lrd c.Query.Sorts k).Item < 0
  ·rw [if_pos h, decide_eq_false (show ¬ (lrd c.Query.Sorts k).Item ≥ 0 by omega)]; rfl
  ·rw [if_neg h, decide_eq_true (show (lrd c.Query.Sorts k).Item ≥ 0 by omega)]; rfl
 ·unfold g_stmt_asked_l1
  dsimp only
  rw [if_neg natNlt]
 ·unfold g_ref_mayQuery_l1 srB
  dsimp only
  rw [if_pos (natLt hk), if_pos (natIn hk), Int.toNat_natCast, Bool.decide_and, Bool.decide_eq_true]
 ·unfold g_ref_mayQuery_l1
  dsimp only
  rw [if_neg natNlt]
theorem asked_eq {c : GCommand} (q : CmdOk c) : g_stmt_asked c.Query = some (qryB c.Query) ∧ g_ref_mayQuery c.Query = some (qryB c.Query) := by
 obtain ⟨h1, h2⟩ := f_items q
 obtain ⟨h3, h4⟩ := f_sorts q
 obtain ⟨h5, h6⟩ := wh_eq q.qwhr
 obtain ⟨h7, h8⟩ := nm_eq q.grp
 unfold g_stmt_asked g_ref_mayQuery qryB
 rw [h1, h3, h5, h6]
 by_cases hg : c.Query.Group = []
 ·simp only [hg, ne_eq, not_true_eq_false, if_true, if_false, Option.bind_some, h2, h4, ifor, ifand, ifandP, Bool.decide_eq_true, iforP, decide_true, Bool.true_or, Bool.true_and]
  refine ⟨?_, by simp only [Bool.and_assoc]⟩
  generalize c.Query.Items.all itB = a
  generalize c.Query.Sorts.all srB = b
  generalize whOk c.Query.Where = w
  generalize c.Query.Cut = u
  generalize c.Query.Most = m
  generalize (c.Query.Items.length : Int) = n
  cases a <;> cases b <;> cases w <;> cases u <;> by_cases hm : m < 0 <;> by_cases hm2 : m = 0 <;> simp_all <;> omega
 ·simp only [hg, ne_eq, not_false_eq_true, if_true, if_false, Option.bind_some, h2, h4, h7, h8, ifor, ifand, ifandP, Bool.decide_eq_true, iforP, decide_false, Bool.false_or]
  refine ⟨?_, by simp only [Bool.and_assoc]⟩
  generalize c.Query.Items.all itB = a
  generalize c.Query.Sorts.all srB = b
  generalize whOk c.Query.Where = w
  generalize c.Query.Cut = u
  generalize nmOk c.Query.Group = g
  generalize c.Query.Most = m
  generalize (c.Query.Items.length : Int) = n
  cases a <;> cases b <;> cases w <;> cases u <;> cases g <;> by_cases hm : m < 0 <;> by_cases hm2 : m = 0 <;> simp_all <;> omega
theorem noQuery_eq (q : GQuery) : g_ref_noQuery q = some (!(askB q)) := by
 unfold g_ref_noQuery askB
 rw [(noE_eq _).2]
 simp only [Option.bind_some, ifand, ifandP, Bool.decide_eq_true]
 congr 1
 generalize noE q.Where = w
 generalize q.Cut = u
 generalize q.Most = m
 have h1 : decide ((q.Items.length : Int) > 0) = !decide ((q.Items.length : Int) = 0) := by
  rw [← decide_not]; exact decide_eq_decide.2 (by omega)
 have h2 : decide ((q.Sorts.length : Int) > 0) = !decide ((q.Sorts.length : Int) = 0) := by
  rw [← decide_not]; exact decide_eq_decide.2 (by omega)
 rw [h1, h2, show decide (q.Group ≠ []) = !decide (q.Group = []) from decide_not, show decide (m ≠ 0) = !decide (m = 0) from decide_not]
 simp only [Bool.not_or, Bool.not_not]
end Go.Proofs.YtcahembojhmpbaaDoor.VM
