/- Words and rules that the proof uses. -/
import Derived.Test.YtcahembojhmpbaaDoorPuStmtC
namespace Go.Proofs.YtcahembojhmpbaaDoor.VM
open Go Go.RowKit
def baseB (c : GCommand) : Bool := nmOk c.Table && (decide (c.Owner ≥ 0) && (decide (c.Drawer ≥ 0) && decide (c.To ≥ 0)))
noncomputable def frmB (c : GCommand) : Bool := baseB c && (if c.Kind = 1 then c.Cols.all colB && decide ((c.Cols.length : Int) > 0) else if c.Kind = 2 then c.Row.all valB && decide ((c.Row.length : Int) > 0) else if c.Kind = 3 then c.Sets.all setB && (decide ((c.Sets.length : Int) > 0) && whOk c.Where) else if c.Kind = 4 then whOk c.Where else if c.Kind = 5 then qryB c.Query else decide ((c.Right = (1 : Int)) ∨ (c.Right = (2 : Int))))
theorem formed_eq {c : GCommand} (q : CmdOk c) : g_stmt_formed c = some (frmB c) := by
 unfold g_stmt_formed frmB
 rw [(nm_eq q.tab).1, Option.bind_some]
 have hb : (((((!(nmOk c.Table)) = true) ∨ (c.Owner < (0 : Int))) ∨ (c.Drawer < (0 : Int))) ∨ (c.To < (0 : Int))) ↔ baseB c = false := by
  unfold baseB
  cases nmOk c.Table
  ·simp
  ·rw [Bool.true_and, ← Bool.decide_and, ← Bool.decide_and, decide_eq_false_iff_not]
   simp only [Bool.not_true, Bool.false_eq_true, false_or]
   omega
 by_cases h0 : baseB c = true
 ·rw [if_neg (fun h => by rw [hb.1 h] at h0; exact absurd h0 (by decide)), h0, Bool.true_and]
  by_cases k1 : c.Kind = 1
  ·rw [if_pos k1, if_pos k1, (f_cols q).1, Option.bind_some]
   cases c.Cols.all colB <;> rfl
  ·rw [if_neg k1, if_neg k1]
   by_cases k2 : c.Kind = 2
   ·rw [if_pos k2, if_pos k2, (f_row q).1, Option.bind_some]
    cases c.Row.all valB <;> rfl
   ·rw [if_neg k2, if_neg k2]
    by_cases k3 : c.Kind = 3
    ·rw [if_pos k3, if_pos k3, (f_sets q).1, (wh_eq q.whr).1, Option.bind_some]
     cases c.Sets.all setB
     ·rfl
     ·simp only [if_true, Option.bind_some, ifandP, Bool.decide_eq_true, Bool.true_and]
    ·rw [if_neg k3, if_neg k3]
     by_cases k4 : c.Kind = 4
     ·rw [if_pos k4, if_pos k4, (wh_eq q.whr).1, Option.bind_some]
     ·rw [if_neg k4, if_neg k4]
      by_cases k5 : c.Kind = 5
      ·rw [if_pos k5, if_pos k5, (asked_eq q).1, Option.bind_some]
      ·rw [if_neg k5, if_neg k5]
 ·have h0' : baseB c = false := Bool.eq_false_iff.2 h0
  rw [if_pos (hb.2 h0'), h0', Bool.false_and]
theorem cut_whole {α : Type} {l : List α} (h : (l.length : Int) ≤ 4) : cut l (0 : Int) (imin (l.length : Int) (4 : Int)) = l ∧ (0 ≤ imin (l.length : Int) (4 : Int) ∧ imin (l.length : Int) (4 : Int) ≤ (l.length : Int)) := by
 have hm : imin (l.length : Int) (4 : Int) = (l.length : Int) := by unfold imin; rw [if_neg (by omega)]
 rw [hm]
 refine ⟨?_, by omega, by omega⟩
 simp only [cut, Int.toNat_zero, Int.toNat_natCast, List.drop_zero, Nat.sub_zero, List.take_length]
theorem exprs_eq {c : GCommand} (h1 : (c.Sets.length : Int) ≤ 4) (h2 : (c.Query.Items.length : Int) ≤ 4) : g_ref_exprs c = some (([c.Where, c.Query.Where] ++ c.Sets.map (·.Expr)) ++ c.Query.Items.map (·.Expr)) := by
 obtain ⟨e1, b1⟩ := cut_whole h1
 obtain ⟨e2, b2⟩ := cut_whole h2
 unfold g_ref_exprs
 rw [if_pos b1, letO_eq, e1, e2]
 obtain ⟨r, h3, h4⟩ := loopO_times (step := g_ref_exprs_l0 c (c.Sets.length : Int)) c.Sets.length (fun k (s : List GExpr) => ((k : Int), s)) (fun k s => s = [c.Where, c.Query.Where] ++ (c.Sets.take k).map (·.Expr)) (fun r => r = [c.Where, c.Query.Where] ++ c.Sets.map (·.Expr)) (fun k s hk hi => by
  left
  refine ⟨s ++ [(lrd c.Sets k).Expr], ?_, by rw [hi, take_step hk, List.map_append, List.append_assoc]; rfl⟩
  have hlen : s.length ≤ 6 := by rw [hi, List.length_append, List.length_map, List.length_take]; simp; omega
  unfold g_ref_exprs_l0
  dsimp only
  rw [if_pos (natLt hk), e1, if_pos (natIn hk), Int.toNat_natCast, letO_eq, if_pos (show room _ _ by simp only [room, List.length_cons, List.length_nil]; omega), w64_succ (by omega)]) (fun s hi => ⟨s, by
  unfold g_ref_exprs_l0
  dsimp only
  rw [if_neg natNlt], by rw [hi, List.take_length]⟩) (s := [c.Where, c.Query.Where]) (by rw [List.take_zero]; rfl)
 have h3' : loopO (g_ref_exprs_l0 c (c.Sets.length : Int)) ((0 : Int), ([c.Where, c.Query.Where] : List GExpr)) = some r := h3
 rw [h3', h4, Option.bind_some, if_pos b2, letO_eq, letO_eq]
 obtain ⟨r2, h5, h6⟩ := loopO_times (step := g_ref_exprs_l1 c.Query.Items (c.Query.Items.length : Int)) c.Query.Items.length (fun k (s : List GExpr) => ((k : Int), s)) (fun k s => s = ([c.Where, c.Query.Where] ++ c.Sets.map (·.Expr)) ++ (c.Query.Items.take k).map (·.Expr)) (fun r => r = ([c.Where, c.Query.Where] ++ c.Sets.map (·.Expr)) ++ c.Query.Items.map (·.Expr)) (fun k s hk hi => by
  left
  refine ⟨s ++ [(lrd c.Query.Items k).Expr], ?_, by rw [hi, take_step hk, List.map_append, ← List.append_assoc]; rfl⟩
  have hlen : s.length ≤ 10 := by rw [hi, List.length_append, List.length_append, List.length_map, List.length_map, List.length_take]; simp; omega
  unfold g_ref_exprs_l1
  dsimp only
  rw [if_pos (natLt hk), if_pos (natIn hk), Int.toNat_natCast, if_pos (show room _ _ by simp only [room, List.length_cons, List.length_nil]; omega), w64_succ (by omega)]) (fun s hi => ⟨s, by
  unfold g_ref_exprs_l1
  dsimp only
  rw [if_neg natNlt], by rw [hi, List.take_length]⟩) (s := [c.Where, c.Query.Where] ++ c.Sets.map (·.Expr)) (by rw [List.take_zero]; simp)
 have h5' : loopO (g_ref_exprs_l1 c.Query.Items (c.Query.Items.length : Int)) ((0 : Int), [c.Where, c.Query.Where] ++ c.Sets.map (·.Expr)) = some r2 := h5
 rw [h5', h6, Option.bind_some]
theorem slims_eq {l : List GExpr} (hl : l.length < 9223372036854775807) (hq : ∀ e ∈ l, GExpr.ok e) : loopO (g_ref_CommandFault_l0 l) (0 : Int) = some (if l.all slimB = true then .inr () else .inl 1) := by
 have h := any_loop (step := g_ref_CommandFault_l0 l) l (fun e => !(slimB e)) (.inl 1) (.inr ()) hl (fun k hk => by
  unfold g_ref_CommandFault_l0
  dsimp only
  rw [if_pos (natLt hk), if_pos (natIn hk), Int.toNat_natCast, (xE_eq (hq _ (lrd_mem hk))).2.2, Option.bind_some]
  have : decide (xE (lrd l k) ≠ 1) = slimB (lrd l k) := rfl
  rw [this]
  cases slimB (lrd l k) <;> rfl) (by
  unfold g_ref_CommandFault_l0
  dsimp only
  rw [if_neg natNlt])
 rw [h, show (l.any fun e => !(slimB e)) = !(l.all slimB) from by rw [List.not_all_eq_any_not]]
 cases l.all slimB <;> rfl
def restB (b : Bool) (c : GCommand) : Bool := !b || (decide ((c.Cols.length : Int) > 0) || (decide ((c.Row.length : Int) > 0) || (decide ((c.Sets.length : Int) > 0) || (!(noE c.Where) || (!(!(askB c.Query)) || (decide (c.To ≠ 0) || (decide (c.Right ≠ 0) || c.Option_)))))))
theorem rest_eq (b : Bool) (c : GCommand) : (if (!b) = true then some true else (if (c.Cols.length : Int) > (0 : Int) then some true else (if (c.Row.length : Int) > (0 : Int) then some true else (if (c.Sets.length : Int) > (0 : Int) then some true else (g_ref_noExpr c.Where).bind fun r'47 => (if (!r'47) = true then some true else (g_ref_noQuery c.Query).bind fun r'48 => (if (!r'48) = true then some true else (if c.To ≠ (0 : Int) then some true else (if c.Right ≠ (0 : Int) then some true else some c.Option_)))))))) = some (restB b c) := by
 rw [(noE_eq _).2, noQuery_eq]
 simp only [Option.bind_some, ifor, iforP, Bool.decide_eq_true, restB]
noncomputable def doneB (c : GCommand) : Bool × GCommand :=
 if c.Kind = 1 then (decide (((((((nmOk c.Table = true) ∧ (c.Owner ≥ (0 : Int))) ∧ (c.Drawer ≥ (0 : Int))) ∧ (c.To ≥ (0 : Int))) ∧ ((c.Cols.length : Int) > (0 : Int))) ∧ (c.Owner = (0 : Int))) ∧ (c.Drawer = (0 : Int))) && c.Cols.all colB, { c with Cols := [] })
 else if c.Kind = 2 then (decide (((((nmOk c.Table = true) ∧ (c.Owner ≥ (0 : Int))) ∧ (c.Drawer ≥ (0 : Int))) ∧ (c.To ≥ (0 : Int))) ∧ ((c.Row.length : Int) > (0 : Int))) && c.Row.all valB, { c with Row := [] })
 else if c.Kind = 3 then ((baseB c && (decide ((c.Sets.length : Int) > 0) && whOk c.Where)) && c.Sets.all setB, { c with Sets := [], Where := GExpr.zero })
 else if c.Kind = 4 then (baseB c && whOk c.Where, { c with Where := GExpr.zero })
 else if c.Kind = 5 then (baseB c && (qryB c.Query && decide (c.Drawer = 0)), { c with Query := GQuery.zero })
 else (decide ((((((nmOk c.Table = true) ∧ (c.Owner ≥ (0 : Int))) ∧ (c.Drawer ≥ (0 : Int))) ∧ (c.To ≥ (0 : Int))) ∧ ((c.Right = (1 : Int)) ∨ (c.Right = (2 : Int)))) ∧ ((c.Kind = (6 : Int)) ∨ ((!c.Option_) = true))), { c with To := 0, Right := 0, Option_ := false })
theorem fault_eq {c : GCommand} (q : CmdOk c) : g_ref_CommandFault c = some (if (c.Kind < 1) ∨ (c.Kind > 7) then 2 else if bigB c = true then 1 else if slimAll c = true then (if restB (doneB c).1 (doneB c).2 = true then 3 else 0) else 1) := by
 unfold g_ref_CommandFault
 by_cases hk : (c.Kind < 1) ∨ (c.Kind > 7)
 ·rw [if_pos hk, if_pos hk]
 ·rw [if_neg hk, if_neg hk, letO_eq]
  have hbb : decide ((((((c.Cols.length : Int) > (5 : Int)) ∨ ((c.Row.length : Int) > (5 : Int))) ∨ ((c.Sets.length : Int) > (4 : Int))) ∨ ((c.Query.Items.length : Int) > (4 : Int))) ∨ ((c.Query.Sorts.length : Int) > (4 : Int))) = bigB c := rfl
  rw [hbb]
  by_cases hb : bigB c = true
  ·rw [if_pos hb, if_pos hb]
  ·rw [if_neg hb, if_neg hb]
   have hb2 : ¬ ((((((c.Cols.length : Int) > (5 : Int)) ∨ ((c.Row.length : Int) > (5 : Int))) ∨ ((c.Sets.length : Int) > (4 : Int))) ∨ ((c.Query.Items.length : Int) > (4 : Int))) ∨ ((c.Query.Sorts.length : Int) > (4 : Int))) := fun h => hb (decide_eq_true h)
   have hs4 : (c.Sets.length : Int) ≤ 4 := by omega
   have hi4 : (c.Query.Items.length : Int) ≤ 4 := by omega
   rw [exprs_eq hs4 hi4, Option.bind_some, slims_eq (by simp only [List.length_append, List.length_map, List.length_cons, List.length_nil]; omega) (fun e he => by
    rcases List.mem_append.1 he with h | h
    ·rcases List.mem_append.1 h with h | h
     ·rcases List.mem_cons.1 h with rfl | h
      ·exact q.whr
      ·rcases List.mem_cons.1 h with rfl | h
       ·exact q.qwhr
       ·cases h
     ·obtain ⟨s, h1, rfl⟩ := List.mem_map.1 h
      exact q.sete _ h1
    ·obtain ⟨s, h1, rfl⟩ := List.mem_map.1 h
     exact q.iteme _ h1), Option.bind_some]
   have hall : (([c.Where, c.Query.Where] ++ c.Sets.map (·.Expr)) ++ c.Query.Items.map (·.Expr)).all slimB = slimAll c := by
    unfold slimAll
    simp only [List.all_append, List.all_cons, List.all_nil, List.all_map, Bool.and_true]
    rfl
   rw [hall]
   by_cases hs : slimAll c = true
   ·rw [if_pos hs, if_pos hs]
    dsimp only
    rw [(nm_eq q.tab).2, Option.bind_some]
    have hd : ((if c.Kind = (1 : Int) then letO (decide (((((((nmOk c.Table = true) ∧ (c.Owner ≥ (0 : Int))) ∧ (c.Drawer ≥ (0 : Int))) ∧ (c.To ≥ (0 : Int))) ∧ ((c.Cols.length : Int) > (0 : Int))) ∧ (c.Owner = (0 : Int))) ∧ (c.Drawer = (0 : Int)))) fun ok5'12 => (loopO (g_ref_CommandFault_l1 c) (ok5'12, (0 : Int))).bind fun y'19 => some (y'19, { c with Cols := [] }) else (if c.Kind = (2 : Int) then (loopO (g_ref_CommandFault_l2 c) ((decide (((((nmOk c.Table = true) ∧ (c.Owner ≥ (0 : Int))) ∧ (c.Drawer ≥ (0 : Int))) ∧ (c.To ≥ (0 : Int))) ∧ ((c.Row.length : Int) > (0 : Int)))), (0 : Int))).bind fun y'26 => some (y'26, { c with Row := [] }) else (if c.Kind = (3 : Int) then ((if nmOk c.Table = true then (if c.Owner ≥ (0 : Int) then (if c.Drawer ≥ (0 : Int) then (if c.To ≥ (0 : Int) then (if (c.Sets.length : Int) > (0 : Int) then (g_ref_mayWhere c.Where).bind fun r'28 => some r'28 else some false) else some false) else some false) else some false) else some false)).bind fun g'29 => (loopO (g_ref_CommandFault_l3 c) (g'29, (0 : Int))).bind fun y'37 => some (y'37, { { c with Sets := [] } with Where := GExpr.zero }) else (if c.Kind = (4 : Int) then ((if nmOk c.Table = true then (if c.Owner ≥ (0 : Int) then (if c.Drawer ≥ (0 : Int) then (if c.To ≥ (0 : Int) then (g_ref_mayWhere c.Where).bind fun r'39 => some r'39 else some false) else some false) else some false) else some false)).bind fun g'40 => some (g'40, { c with Where := GExpr.zero }) else (if c.Kind = (5 : Int) then ((if nmOk c.Table = true then (if c.Owner ≥ (0 : Int) then (if c.Drawer ≥ (0 : Int) then (if c.To ≥ (0 : Int) then (g_ref_mayQuery c.Query).bind fun r'42 => (if r'42 = true then some (decide (c.Drawer = (0 : Int))) else some false) else some false) else some false) else some false) else some false)).bind fun g'43 => some (g'43, { c with Query := GQuery.zero }) else letO (decide ((((((nmOk c.Table = true) ∧ (c.Owner ≥ (0 : Int))) ∧ (c.Drawer ≥ (0 : Int))) ∧ (c.To ≥ (0 : Int))) ∧ ((c.Right = (1 : Int)) ∨ (c.Right = (2 : Int)))) ∧ ((c.Kind = (6 : Int)) ∨ ((!c.Option_) = true)))) fun ok5'44 => letO ({ { { c with To := (0 : Int) } with Right := (0 : Int) } with Option_ := false }) fun c1'45 => some (ok5'44, c1'45))))))) = some (doneB c) := by
     unfold doneB
     by_cases k1 : c.Kind = 1
     ·rw [if_pos k1, if_pos k1, letO_eq, (f_cols q).2, Option.bind_some]
     ·rw [if_neg k1, if_neg k1]
      by_cases k2 : c.Kind = 2
      ·rw [if_pos k2, if_pos k2, (f_row q).2, Option.bind_some]
      ·rw [if_neg k2, if_neg k2]
       by_cases k3 : c.Kind = 3
       ·rw [if_pos k3, if_pos k3, (wh_eq q.whr).2]
        simp only [Option.bind_some, ifand, ifandP, Bool.decide_eq_true, (f_sets q).2]
        unfold baseB
        simp only [Bool.and_assoc]
       ·rw [if_neg k3, if_neg k3]
        by_cases k4 : c.Kind = 4
        ·rw [if_pos k4, if_pos k4, (wh_eq q.whr).2]
         simp only [Option.bind_some, ifand, ifandP, Bool.decide_eq_true]
         unfold baseB
         simp only [Bool.and_assoc]
        ·rw [if_neg k4, if_neg k4]
         by_cases k5 : c.Kind = 5
         ·rw [if_pos k5, if_pos k5, (asked_eq q).2]
          simp only [Option.bind_some, ifand, ifandP, Bool.decide_eq_true]
          unfold baseB
          simp only [Bool.and_assoc]
         ·rw [if_neg k5, if_neg k5, letO_eq, letO_eq]
    refine (congrArg (fun o : Option (Bool × GCommand) => o.bind _) hd).trans ?_
    rw [Option.bind_some, rest_eq, Option.bind_some]
    by_cases hr : restB (doneB c).1 (doneB c).2 = true
    ·rw [if_pos hr, if_pos hr]
    ·rw [if_neg hr, if_neg hr]
   ·rw [if_neg hs, if_neg hs]
theorem noE_zero : noE GExpr.zero = true := by unfold noE GExpr.zero; simp
theorem askB_zero : askB GQuery.zero = false := by
 unfold askB GQuery.zero
 rw [noE_zero]
 simp
theorem agree {c : GCommand} (hk : ¬ ((c.Kind < 1) ∨ (c.Kind > 7))) : (!(sobB c) || !(frmB c)) = restB (doneB c).1 (doneB c).2 := by
 have hkk : c.Kind = 1 ∨ c.Kind = 2 ∨ c.Kind = 3 ∨ c.Kind = 4 ∨ c.Kind = 5 ∨ c.Kind = 6 ∨ c.Kind = 7 := by omega
 unfold sobB frmB doneB restB
 rcases hkk with hk | hk | hk | hk | hk | hk | hk
 ·simp only [hk, Int.reduceEq, if_true, if_false, decide_true, decide_false, baseB, List.length_nil]
  generalize noE c.Where = w
  generalize askB c.Query = a
  generalize nmOk c.Table = n
  generalize c.Cols.all colB = cs
  generalize c.Option_ = o
  generalize c.Cols.length = lc
  generalize c.Row.length = lr
  generalize c.Sets.length = ls
  generalize c.Owner = ow
  generalize c.Drawer = dr
  generalize c.To = to
  generalize c.Right = ri
  rw [Bool.eq_iff_iff]
  simp only [Bool.or_eq_true, Bool.and_eq_true, Bool.not_eq_true', decide_eq_true_eq, decide_eq_false_iff_not, Bool.or_eq_false_iff, Bool.and_eq_false_imp, Bool.not_true, Bool.not_false]
  cases w <;> cases a <;> cases n <;> cases cs <;> cases o <;> simp <;> omega
 ·simp only [hk, Int.reduceEq, if_true, if_false, decide_true, decide_false, baseB, List.length_nil]
  generalize noE c.Where = w
  generalize askB c.Query = a
  generalize nmOk c.Table = n
  generalize c.Row.all valB = cs
  generalize c.Option_ = o
  generalize c.Cols.length = lc
  generalize c.Row.length = lr
  generalize c.Sets.length = ls
  generalize c.Owner = ow
  generalize c.Drawer = dr
  generalize c.To = to
  generalize c.Right = ri
  rw [Bool.eq_iff_iff]
  simp only [Bool.or_eq_true, Bool.and_eq_true, Bool.not_eq_true', decide_eq_true_eq, decide_eq_false_iff_not, Bool.or_eq_false_iff, Bool.and_eq_false_imp, Bool.not_true, Bool.not_false]
  cases w <;> cases a <;> cases n <;> cases cs <;> cases o <;> simp <;> omega
 ·simp only [hk, Int.reduceEq, if_true, if_false, decide_true, decide_false, baseB, List.length_nil, noE_zero]
  generalize whOk c.Where = w
  generalize askB c.Query = a
  generalize nmOk c.Table = n
  generalize c.Sets.all setB = cs
  generalize c.Option_ = o
  generalize c.Cols.length = lc
  generalize c.Row.length = lr
  generalize c.Sets.length = ls
  generalize c.Owner = ow
  generalize c.Drawer = dr
  generalize c.To = to
  generalize c.Right = ri
  rw [Bool.eq_iff_iff]
  simp only [Bool.or_eq_true, Bool.and_eq_true, Bool.not_eq_true', decide_eq_true_eq, decide_eq_false_iff_not, Bool.or_eq_false_iff, Bool.and_eq_false_imp, Bool.not_true, Bool.not_false]
  cases w <;> cases a <;> cases n <;> cases cs <;> cases o <;> simp <;> omega
 ·simp only [hk, Int.reduceEq, if_true, if_false, decide_true, decide_false, baseB, List.length_nil, noE_zero]
  generalize whOk c.Where = w
  generalize askB c.Query = a
  generalize nmOk c.Table = n
  generalize c.Option_ = o
  generalize c.Cols.length = lc
  generalize c.Row.length = lr
  generalize c.Sets.length = ls
  generalize c.Owner = ow
  generalize c.Drawer = dr
  generalize c.To = to
  generalize c.Right = ri
  rw [Bool.eq_iff_iff]
  simp only [Bool.or_eq_true, Bool.and_eq_true, Bool.not_eq_true', decide_eq_true_eq, decide_eq_false_iff_not, Bool.or_eq_false_iff, Bool.and_eq_false_imp, Bool.not_true, Bool.not_false]
  cases w <;> cases a <;> cases n <;> cases o <;> simp <;> omega
 ·simp only [hk, Int.reduceEq, if_true, if_false, decide_true, decide_false, baseB, List.length_nil, askB_zero]
  generalize noE c.Where = w
  generalize qryB c.Query = a
  generalize nmOk c.Table = n
  generalize c.Option_ = o
  generalize c.Cols.length = lc
  generalize c.Row.length = lr
  generalize c.Sets.length = ls
  generalize c.Owner = ow
  generalize c.Drawer = dr
  generalize c.To = to
  generalize c.Right = ri
  rw [Bool.eq_iff_iff]
  simp only [Bool.or_eq_true, Bool.and_eq_true, Bool.not_eq_true', decide_eq_true_eq, decide_eq_false_iff_not, Bool.or_eq_false_iff, Bool.and_eq_false_imp, Bool.not_true, Bool.not_false]
  cases w <;> cases a <;> cases n <;> cases o <;> simp <;> omega
 ·simp only [hk, Int.reduceEq, if_true, if_false, decide_true, decide_false, baseB, List.length_nil]
  generalize noE c.Where = w
  generalize askB c.Query = a
  generalize nmOk c.Table = n
  generalize c.Option_ = o
  generalize c.Cols.length = lc
  generalize c.Row.length = lr
  generalize c.Sets.length = ls
  generalize c.Owner = ow
  generalize c.Drawer = dr
  generalize c.To = to
  generalize c.Right = ri
  rw [Bool.eq_iff_iff]
  simp only [Bool.or_eq_true, Bool.and_eq_true, Bool.not_eq_true', decide_eq_true_eq, decide_eq_false_iff_not, Bool.or_eq_false_iff, Bool.and_eq_false_imp, Bool.not_true, Bool.not_false]
  cases w <;> cases a <;> cases n <;> cases o <;> simp <;> omega
 ·simp only [hk, Int.reduceEq, if_true, if_false, decide_true, decide_false, baseB, List.length_nil]
  generalize noE c.Where = w
  generalize askB c.Query = a
  generalize nmOk c.Table = n
  generalize c.Option_ = o
  generalize c.Cols.length = lc
  generalize c.Row.length = lr
  generalize c.Sets.length = ls
  generalize c.Owner = ow
  generalize c.Drawer = dr
  generalize c.To = to
  generalize c.Right = ri
  rw [Bool.eq_iff_iff]
  simp only [Bool.or_eq_true, Bool.and_eq_true, Bool.not_eq_true', decide_eq_true_eq, decide_eq_false_iff_not, Bool.or_eq_false_iff, Bool.and_eq_false_imp, Bool.not_true, Bool.not_false]
  cases w <;> cases a <;> cases n <;> cases o <;> simp <;> omega
theorem g_law_StmtChecks_true {x0 : GCommand} (q0 : GCommand.ok x0) : g_law_StmtChecks x0 = some true := by
 have q := cmd_ok q0
 have key : g_stmt_Check x0 = g_ref_CommandFault x0 := by
  rw [fault_eq q]
  unfold g_stmt_Check
  by_cases hk : (x0.Kind < 1) ∨ (x0.Kind > 7)
  ·rw [if_pos hk, if_pos hk]
  ·rw [if_neg hk, if_neg hk, stSmall_eq q, sober_eq, formed_eq q, ← agree hk]
   cases bigB x0 <;> cases slimAll x0 <;> cases sobB x0 <;> cases frmB x0 <;> rfl
 unfold g_law_StmtChecks
 rw [key, fault_eq q]
 simp
end Go.Proofs.YtcahembojhmpbaaDoor.VM
