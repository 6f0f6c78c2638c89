/- The law RightGives returns true at every argument: right.Give answers what P17.5 says. -/
import Derived.Test.YtgbfmldbbnhefaaRows
import Derived.Test.YtgbfmldbbnhefaaVmLaw
import Derived.Test.YtgbfmldbbnhefaaPuRight4
import Derived.WalkKit
import Derived.ProofKit
import Derived.OpenShut
import Derived.ChangeOld
namespace Go.Proofs.Ytgbfmldbbnhefaa.rightGives
open Go.ChangeShapes Go.WideShapes Go.ChangeAt Go.RowKit
open Go.Proofs.Ytgbfmldbbnhefaa.VM
theorem own : ownKnob Try.prog.godebug = none := by kernel_rfl
theorem laidOut : laidOutB Try.prog = true := by kernel_rfl
set_option maxRecDepth 100000 in
theorem lifted (os : Os) (started : os.Started) (H : Type) (enc : TypeId × Value → H) :
    ReturnsInHanded {} Try.checked os 7 .any (Rows.rightGivesSpec.pre6 enc Try.prog Try.f7 Rows.rightGivesRow.domain false) (Rows.rightGivesSpec.post enc Try.prog Try.f7 false true false false) := by
  refine returnsInHanded_of_change_sized (C := Try.checked) own started (by kernel_rfl) Try.func7
    (ChangeSpec.witness6 (enc := enc) (C := Try.checked) false ⟨#[], #[.slice none 0 0, .agg #[.int .i64 0, .int .i64 0, .int .i64 0, .int .i64 0, .bool false]], []⟩ 8 (by kernel_rfl) (by kernel_rfl) (by kernel_rfl) (by kernel_rfl)) ?_
  intro W base args ds gs before hval0 hW hcnd hsz0 _
  have hsz : (DataW.weightsEach Try.prog (Try.f7.params.toList ++ Rows.rightGivesSpec.plain.varTypes Try.prog) (ds ++ gs)).all (· ≤ reachBytes) = true := hsz0
  have hval : ∀ (j : Nat) t v, Try.f7.params[j]? = some t → args[j]? = some v → Value.okWide Try.prog W .any base t v := hval0
  have hW' := hW
  obtain ⟨p, q, hA0, hV, rfl, hfz, hnd⟩ := hW
  have hA : DataW.TrodAll enc Try.prog W 0 (fun _ => true) true Try.f7.params.toList args.toList ds p := hA0
  obtain ⟨rfl, rfl⟩ := trodVars_none hV
  refine (rowCall (d := 3) laidOut (by kernel_rfl) hA (by kernel_rfl) hsz (fun j t v ht hv => hval j t v (by simpa using ht) hv) (tabs_none rfl) (fun avs hn hty hbulk => ?_)).mono fun e W' ⟨he, bel, back⟩ => ?_
  · rw [Try.params7] at hn hty
    match avs, hn with
    | [a0, a1], _ =>
      obtain ⟨x0, hc0, q0⟩ := ty_22 ((hty 0 _ a0 rfl rfl).one Try.underlying22 rfl)
      obtain rfl := one_inj hc0
      obtain ⟨c1, rfl, hc1⟩ := (hty 1 _ a1 rfl rfl).struct Try.underlying27
      obtain ⟨x1, rfl, q1⟩ := ty_27 hc1
      exact g_law_RightGives_ac (g_law_RightGives_true q0 q1)
  subst he
  have hlen := trodAll_len _ _ _ _ hA
  obtain ⟨d0, d1, rfl⟩ : ∃ d0 d1, ds = [d0, d1] := by
    match ds, hlen with
    | [d0, d1], _ => exact ⟨d0, d1, rfl⟩
  exact ⟨_, rfl, _, _, _, [], _, [], hW', trodAll_mk1 (shut_bool Try.underlying4 _), back, rfl, bel.frame _, fun h => by cases h⟩
theorem over : Rows.rightGivesRow.holds Try.pinned (OpenSpec.ofChange Rows.rightGivesSpec) :=
  OpenClaim.holds_of_wide 7 Try.f7 rfl rfl rfl rfl rfl rfl rfl ⟨rfl, rfl, rfl, rfl, rfl⟩ rfl rfl rfl rfl rfl (by kernel_rfl) Try.func7 (by kernel_rfl)
    (of_decide_eq_true (by kernel_rfl)) (by unfold Func.isWrapper; first | (rw [if_pos (by decide +kernel)]; kernel_rfl) | (rw [if_neg (by decide +kernel)]; exact ⟨rfl, rfl⟩))
    (fun os started H enc _ => lifted os started H enc)
theorem proved : Rows.RightGivesSaid := over
#print axioms proved
end Go.Proofs.Ytgbfmldbbnhefaa.rightGives
namespace Go.Proofs.Ytgbfmldbbnhefaa
/-- The row, under a short name, for the claim. -/
theorem rightGives_holds : Rows.RightGivesSaid := rightGives.proved
end Go.Proofs.Ytgbfmldbbnhefaa
