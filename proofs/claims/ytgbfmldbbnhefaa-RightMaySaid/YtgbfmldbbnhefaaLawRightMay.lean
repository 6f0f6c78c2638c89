/- The law RightMay returns true at every argument: right.May answers what P17.4 says. -/
import Derived.Test.YtgbfmldbbnhefaaRows
import Derived.Test.YtgbfmldbbnhefaaVmLaw
import Derived.Test.YtgbfmldbbnhefaaPuRight3
import Derived.WalkKit
import Derived.ProofKit
import Derived.OpenShut
import Derived.ChangeOld
namespace Go.Proofs.Ytgbfmldbbnhefaa.rightMay
open Go.ChangeShapes Go.WideShapes Go.ChangeAt Go.RowKit
open Go.Proofs.Ytgbfmldbbnhefaa.VM
theorem own : ownKnob Try.prog.godebug = none := by kernel_rfl
theorem laidOut : laidOutB Try.prog = true := by kernel_rfl
set_option maxRecDepth 100000 in
theorem lifted (os : Os) (started : os.Started) (H : Type) (enc : TypeId × Value → H) :
    ReturnsInHanded {} Try.checked os 6 .any (Rows.rightMaySpec.pre6 enc Try.prog Try.f6 Rows.rightMayRow.domain false) (Rows.rightMaySpec.post enc Try.prog Try.f6 false true false false) := by
  refine returnsInHanded_of_change_sized (C := Try.checked) own started (by kernel_rfl) Try.func6
    (ChangeSpec.witness6 (enc := enc) (C := Try.checked) false ⟨#[], #[.slice none 0 0, .int .i64 0, .int .i64 0, .int .i64 0], []⟩ 8 (by kernel_rfl) (by kernel_rfl) (by kernel_rfl) (by kernel_rfl)) ?_
  intro W base args ds gs before hval0 hW hcnd hsz0 _
  have hsz : (DataW.weightsEach Try.prog (Try.f6.params.toList ++ Rows.rightMaySpec.plain.varTypes Try.prog) (ds ++ gs)).all (· ≤ reachBytes) = true := hsz0
  have hval : ∀ (j : Nat) t v, Try.f6.params[j]? = some t → args[j]? = some v → Value.okWide Try.prog W .any base t v := hval0
  have hW' := hW
  obtain ⟨p, q, hA0, hV, rfl, hfz, hnd⟩ := hW
  have hA : DataW.TrodAll enc Try.prog W 0 (fun _ => true) true Try.f6.params.toList args.toList ds p := hA0
  obtain ⟨rfl, rfl⟩ := trodVars_none hV
  refine (rowCall (d := 3) laidOut (by kernel_rfl) hA (by kernel_rfl) hsz (fun j t v ht hv => hval j t v (by simpa using ht) hv) (tabs_none rfl) (fun avs hn hty hbulk => ?_)).mono fun e W' ⟨he, bel, back⟩ => ?_
  · rw [Try.params6] at hn hty
    match avs, hn with
    | [a0, a1, a2, a3], _ =>
      obtain ⟨x0, hc0, q0⟩ := ty_22 ((hty 0 _ a0 rfl rfl).one Try.underlying22 rfl)
      obtain rfl := one_inj hc0
      obtain ⟨x1, hc1, q1⟩ := ty_3 ((hty 1 _ a1 rfl rfl).one Try.underlying3 rfl)
      obtain rfl := one_inj hc1
      obtain ⟨x2, hc2, q2⟩ := ty_3 ((hty 2 _ a2 rfl rfl).one Try.underlying3 rfl)
      obtain rfl := one_inj hc2
      obtain ⟨x3, hc3, q3⟩ := ty_3 ((hty 3 _ a3 rfl rfl).one Try.underlying3 rfl)
      obtain rfl := one_inj hc3
      exact g_law_RightMay_ac (g_law_RightMay_true q0 q1 q2 q3)
  subst he
  have hlen := trodAll_len _ _ _ _ hA
  obtain ⟨d0, d1, d2, d3, rfl⟩ : ∃ d0 d1 d2 d3, ds = [d0, d1, d2, d3] := by
    match ds, hlen with
    | [d0, d1, d2, d3], _ => exact ⟨d0, d1, d2, d3, rfl⟩
  exact ⟨_, rfl, _, _, _, [], _, [], hW', trodAll_mk1 (shut_bool Try.underlying4 _), back, rfl, bel.frame _, fun h => by cases h⟩
theorem over : Rows.rightMayRow.holds Try.pinned (OpenSpec.ofChange Rows.rightMaySpec) :=
  OpenClaim.holds_of_wide 6 Try.f6 rfl rfl rfl rfl rfl rfl rfl ⟨rfl, rfl, rfl, rfl, rfl⟩ rfl rfl rfl rfl rfl (by kernel_rfl) Try.func6 (by kernel_rfl)
    (of_decide_eq_true (by kernel_rfl)) (by unfold Func.isWrapper; first | (rw [if_pos (by decide +kernel)]; kernel_rfl) | (rw [if_neg (by decide +kernel)]; exact ⟨rfl, rfl⟩))
    (fun os started H enc _ => lifted os started H enc)
theorem proved : Rows.RightMaySaid := over
#print axioms proved
end Go.Proofs.Ytgbfmldbbnhefaa.rightMay
namespace Go.Proofs.Ytgbfmldbbnhefaa
/-- The row, under a short name, for the claim. -/
theorem rightMay_holds : Rows.RightMaySaid := rightMay.proved
end Go.Proofs.Ytgbfmldbbnhefaa
