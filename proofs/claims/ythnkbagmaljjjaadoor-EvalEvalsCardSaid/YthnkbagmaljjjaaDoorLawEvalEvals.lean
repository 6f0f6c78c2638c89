/- eval.Eval answers what P10.1 says, at every argument. -/
import Derived.Test.YthnkbagmaljjjaaDoorRows
import Derived.Test.YthnkbagmaljjjaaDoorVmLaw
import Derived.Test.YthnkbagmaljjjaaDoorVmReadR
import Derived.Test.YthnkbagmaljjjaaDoorCards
import Derived.Test.YthnkbagmaljjjaaDoorTie
import Derived.SevenTiedAt
import Derived.Test.YthnkbagmaljjjaaDoorVtLaid
import Derived.Test.YthnkbagmaljjjaaDoorPuEHC
import Derived.WalkKit
import Derived.ProofKit
import Derived.OpenShut
import Derived.ChangeOld
namespace Go.Proofs.YthnkbagmaljjjaaDoor.evalEvals
open Go.ChangeShapes Go.WideShapes Go.ChangeAt Go.RowKit
open Go.Proofs.YthnkbagmaljjjaaDoor.VM
theorem own : ownKnob Tryd.prog.godebug = none := by kernel_rfl
theorem laidOut : laidOutB Tryd.prog = true := by kernel_rfl
set_option maxRecDepth 100000 in
theorem lifted (os : Os) (started : os.Started) (H : Type) (enc : TypeId × Value → H) :
    ReturnsInHanded {} Tryd.checked os 3 .any (fun w args => (Rows.evalEvalsSpec.pre enc Tryd.prog Tryd.f3 Rows.evalEvalsRow.domain false w args ∧ laidMetH Tryd.prog laidL w) ∧ sizedMet enc Tryd.prog Tryd.f3 (OpenSpec.ofChange Rows.evalEvalsSpec) false w args) (Rows.evalEvalsSpec.post enc Tryd.prog Tryd.f3 false true false false) := by
  refine returnsInHanded_of_change_and (C := Tryd.checked) (X := fun w _ => laidMetH Tryd.prog laidL w) (fun _ _ _ hh h => h.of_heap hh) own started (by kernel_rfl) Tryd.func3
    (ChangeSpec.witness_shaped (enc := enc) (C := Tryd.checked) (os := os) (X := fun w _ => laidMetH Tryd.prog laidL w) false (World.laidAll Tryd.prog os laidL) #[.agg #[.int .i64 0, .int .i64 0, .int .i64 0, .int .u64 0, .string ⟨#[]⟩, .string ⟨#[]⟩, .slice none 0 0], .slice none 0 0, .slice none 0 0] 8 (World.laidAll_os _ _ _) (World.shaped_of_ZipB (by kernel_rfl) (by kernel_rfl)) (by kernel_rfl) (by kernel_rfl) (by kernel_rfl) (laid_met os _)) ?_
  intro W base args ds gs before hval0 hW hcnd hsz0 hL _
  have hsz : (DataW.weightsEach Tryd.prog (Tryd.f3.params.toList ++ Rows.evalEvalsSpec.plain.varTypes Tryd.prog) (ds ++ gs)).all (· ≤ reachBytes) = true := hsz0
  have hval : ∀ (j : Nat) t v, Tryd.f3.params[j]? = some t → args[j]? = some v → Value.okWide Tryd.prog W .any base t v := hval0
  have hW' := hW
  obtain ⟨p, q, hA0, hV, rfl, hfz, hnd⟩ := hW
  have hA : DataW.TrodAll enc Tryd.prog W 0 (fun _ => true) true Tryd.f3.params.toList args.toList ds p := hA0
  obtain ⟨rfl, rfl⟩ := trodVars_none hV
  refine (rowCallR (S := [3, 4, 9, 22, 24, 25, 27, 28, 29, 59]) laidOut (by kernel_rfl) hA (by kernel_rfl) (by kernel_rfl) hsz (fun j t v ht hv => hval j t v (by simpa using ht) hv) (tabs_laid hL) (fun avs hn hty hbulk => ?_)).mono fun e W' ⟨he, bel, back⟩ => ?_
  · rw [Tryd.params3] at hn hty
    match avs, hn with
    | [a0, a1, a2], _ =>
      obtain ⟨c0, rfl, hc0⟩ := (hty 0 _ a0 rfl rfl).choose_spec.struct Tryd.underlying27
      obtain ⟨x0, rfl, q0⟩ := ty_27 hc0
      obtain ⟨x1, hc1, q1⟩ := ty_28 ((hty 1 _ a1 rfl rfl).choose_spec.one Tryd.underlying28 rfl)
      obtain rfl := one_inj hc1
      obtain ⟨x2, hc2, q2⟩ := ty_29 ((hty 2 _ a2 rfl rfl).choose_spec.one Tryd.underlying29 rfl)
      obtain rfl := one_inj hc2
      exact g_law_EvalEvals_ac (g_law_EvalEvals_true q0 q1 q2)
  subst he
  have hlen := trodAll_len _ _ _ _ hA
  obtain ⟨d0, d1, d2, rfl⟩ : ∃ d0 d1 d2, ds = [d0, d1, d2] := by
    match ds, hlen with
    | [d0, d1, d2], _ => exact ⟨d0, d1, d2, rfl⟩
  exact ⟨_, rfl, _, _, _, [], _, [], hW', trodAll_mk1 (shut_bool Tryd.underlying4 _), back, rfl, bel.frame _, fun h => by cases h⟩
theorem over : Rows.evalEvalsRow.holds Tryd.pinned (OpenSpec.ofChange Rows.evalEvalsSpec) :=
  OpenClaim.holds_of_wide 3 Tryd.f3 rfl rfl rfl rfl rfl rfl rfl ⟨rfl, rfl, rfl, rfl, rfl⟩ rfl rfl rfl rfl rfl (by kernel_rfl) Tryd.func3 (by kernel_rfl)
    (of_decide_eq_true (by kernel_rfl)) (by unfold Func.isWrapper; first | (rw [if_pos (by decide +kernel)]; kernel_rfl) | (rw [if_neg (by decide +kernel)]; exact ⟨rfl, rfl⟩))
    (fun os started H enc _ => lifted os started H enc)
theorem proved : Rows.EvalEvalsSaid := over
#print axioms proved
set_option maxRecDepth 100000 in
/-- The row's tied card. -/
theorem card : Rows.EvalEvalsCardSaid :=
  Claim7.holds_tied_plain_at .later [] Rows.evalEvalsCard.laidKinds true Rows.evalEvalsCard.stood.harness Rows.evalEvalsCard.stood.looks
    proved (fun _ h => by cases h) (by kernel_rfl) (fun _ h => by cases h) evalEvals_row_tie rfl ⟨rfl, rfl⟩ (by kernel_rfl) rfl
    (fun f fn hf hfn => by
      obtain rfl : f = 3 := Option.some.inj ((show Tryd.prog.funcNamed Rows.evalEvalsRow.func = some 3 by kernel_rfl).symm.trans hf) |>.symm
      obtain rfl : fn = Tryd.f3 := (Option.some.inj (Tryd.func3.symm.trans hfn)).symm
      exact ⟨by kernel_rfl, fun j t ht => by
        have hm : t ∈ Tryd.f3.params.toList := by simpa using Array.mem_of_getElem? ht
        have hall : (Tryd.f3.params.toList.all fun u => !Tryd.prog.wantsStandIn u) = true := by kernel_rfl
        exact (show Tryd.prog.wantsStandIn t = false by simpa using List.all_eq_true.1 hall t hm)⟩)
    (by kernel_rfl)
#print axioms card
end Go.Proofs.YthnkbagmaljjjaaDoor.evalEvals
namespace Go.Proofs.YthnkbagmaljjjaaDoor
/-- The row's tied card, under a short name, for the claim. -/
theorem evalEvals_holds : Rows.EvalEvalsCardSaid := evalEvals.card
end Go.Proofs.YthnkbagmaljjjaaDoor
