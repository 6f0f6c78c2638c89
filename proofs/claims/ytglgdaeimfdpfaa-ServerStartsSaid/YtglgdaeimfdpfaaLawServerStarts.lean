/- server.Start answers what the document says of a server that is started (P25.1), at every mode and secret: the law says true at every argument. -/
import Derived.Test.YtglgdaeimfdpfaaRows
import Derived.Test.YtglgdaeimfdpfaaVmLaw
import Derived.Test.YtglgdaeimfdpfaaPuStart
import Derived.WalkKit
import Derived.ProofKit
import Derived.OpenShut
import Derived.ChangeOld
namespace Go.Proofs.Ytglgdaeimfdpfaa.serverStarts
open Go.ChangeShapes Go.WideShapes Go.ChangeAt Go.RowKit
open Go.Proofs.Ytglgdaeimfdpfaa.VM
theorem own : ownKnob Try.prog.godebug = none := by kernel_rfl
theorem laidOut : laidOutB Try.prog = true := by kernel_rfl
set_option maxRecDepth 100000 in
theorem lifted (os : Os) (started : os.Started) (H : Type) (enc : TypeId × Value → H) :
    ReturnsInHanded {} Try.checked os 9 .any (Rows.serverStartsSpec.pre6 enc Try.prog Try.f9 Rows.serverStartsRow.domain false) (Rows.serverStartsSpec.post enc Try.prog Try.f9 false true false false) := by
  refine returnsInHanded_of_change_sized (C := Try.checked) own started (by kernel_rfl) Try.func9
    (ChangeSpec.witness6 (enc := enc) (C := Try.checked) false ⟨#[], #[.int .i64 0, .slice none 0 0], []⟩ 8 (by kernel_rfl) (by kernel_rfl) (by kernel_rfl) (by kernel_rfl)) ?_
  intro W base args ds gs before hval0 hW hcnd hsz0 _
  have hsz : (DataW.weightsEach Try.prog (Try.f9.params.toList ++ Rows.serverStartsSpec.plain.varTypes Try.prog) (ds ++ gs)).all (· ≤ reachBytes) = true := hsz0
  have hval : ∀ (j : Nat) t v, Try.f9.params[j]? = some t → args[j]? = some v → Value.okWide Try.prog W .any base t v := hval0
  have hW' := hW
  obtain ⟨p, q, hA0, hV, rfl, hfz, hnd⟩ := hW
  have hA : DataW.TrodAll enc Try.prog W 0 (fun _ => true) true Try.f9.params.toList args.toList ds p := hA0
  obtain ⟨rfl, rfl⟩ := trodVars_none hV
  refine (rowCall (d := 2) laidOut (by kernel_rfl) hA (by kernel_rfl) hsz (fun j t v ht hv => hval j t v (by simpa using ht) hv) (tabs_none rfl) (fun avs hn hty hbulk => ?_)).mono fun e W' ⟨he, bel, back⟩ => ?_
  · rw [Try.params9] at hn hty
    match avs, hn with
    | [a0, a1], _ =>
      obtain ⟨x0, hc0, q0⟩ := ty_3 ((hty 0 _ a0 rfl rfl).one Try.underlying3 rfl)
      obtain rfl := one_inj hc0
      obtain ⟨x1, hc1, q1⟩ := ty_45 ((hty 1 _ a1 rfl rfl).one Try.underlying45 rfl)
      obtain rfl := one_inj hc1
      exact g_law_ServerStarts_ac (g_law_ServerStarts_true q0 q1)
  subst he
  have hlen := trodAll_len _ _ _ _ hA
  obtain ⟨d0, d1, rfl⟩ : ∃ d0 d1, ds = [d0, d1] := by
    match ds, hlen with
    | [d0, d1], _ => exact ⟨d0, d1, rfl⟩
  exact ⟨_, rfl, _, _, _, [], _, [], hW', trodAll_mk1 (shut_bool Try.underlying4 _), back, rfl, bel.frame _, fun h => by cases h⟩
theorem over : Rows.serverStartsRow.holds Try.pinned (OpenSpec.ofChange Rows.serverStartsSpec) :=
  OpenClaim.holds_of_wide 9 Try.f9 rfl rfl rfl rfl rfl rfl rfl ⟨rfl, rfl, rfl, rfl, rfl⟩ rfl rfl rfl rfl rfl (by kernel_rfl) Try.func9 (by kernel_rfl)
    (of_decide_eq_true (by kernel_rfl)) (by unfold Func.isWrapper; first | (rw [if_pos (by decide +kernel)]; kernel_rfl) | (rw [if_neg (by decide +kernel)]; exact ⟨rfl, rfl⟩))
    (fun os started H enc _ => lifted os started H enc)
theorem proved : Rows.ServerStartsSaid := over
#print axioms proved
end Go.Proofs.Ytglgdaeimfdpfaa.serverStarts
namespace Go.Proofs.Ytglgdaeimfdpfaa
/-- The row, under a short name, for the claim. -/
theorem serverStarts_holds : Rows.ServerStartsSaid := serverStarts.proved
end Go.Proofs.Ytglgdaeimfdpfaa
