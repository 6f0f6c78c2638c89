/- oracle.Parse and ref.PartsOf answer the same, for all bytes: no condition but those of the row. -/
import Derived.Test.YtaojoppkkmpieaaRows
import Derived.Test.YtaojoppkkmpieaaVmLaw
import Derived.Test.YtaojoppkkmpieaaFnOracleParses
import Derived.WalkKit
import Derived.ProofKit
import Derived.OpenShut
import Derived.ChangeOld
namespace Go.Proofs.Ytaojoppkkmpieaa.oracleParses
open Go.ChangeShapes Go.WideShapes Go.ChangeAt Go.RowKit
open Go.Proofs.Ytaojoppkkmpieaa.VM
theorem own : ownKnob Try.prog.godebug = none := by kernel_rfl
theorem laidOut : laidOutB Try.prog = true := by kernel_rfl
set_option maxRecDepth 100000 in
theorem lifted (os : Os) (started : os.Started) (H : Type) (enc : TypeId × Value → H) :
    ReturnsInHanded {} Try.checked os 10 .any (Rows.oracleParsesSpec.pre6 enc Try.prog Try.f10 Rows.oracleParsesRow.domain false) (Rows.oracleParsesSpec.post enc Try.prog Try.f10 false true false false) := by
  refine returnsInHanded_of_change_sized (C := Try.checked) own started (by kernel_rfl) Try.func10
    (ChangeSpec.witness6 (enc := enc) (C := Try.checked) false ⟨#[], #[.slice none 0 0], []⟩ 8 (by kernel_rfl) (by kernel_rfl) (by kernel_rfl) (by kernel_rfl)) ?_
  intro W base args ds gs before hval0 hW hcnd hsz0 _
  have hsz : (DataW.weightsEach Try.prog (Try.f10.params.toList ++ Rows.oracleParsesSpec.plain.varTypes Try.prog) (ds ++ gs)).all (· ≤ reachBytes) = true := hsz0
  have hval : ∀ (j : Nat) t v, Try.f10.params[j]? = some t → args[j]? = some v → Value.okWide Try.prog W .any base t v := hval0
  have hW' := hW
  obtain ⟨p, q, hA0, hV, rfl, hfz, hnd⟩ := hW
  have hA : DataW.TrodAll enc Try.prog W 0 (fun _ => true) true Try.f10.params.toList args.toList ds p := hA0
  obtain ⟨rfl, rfl⟩ := trodVars_none hV
  refine (rowCall (d := 3) laidOut (by kernel_rfl) hA (by kernel_rfl) hsz (fun j t v ht hv => hval j t v (by simpa using ht) hv) (fun avs hn hty hbulk => ?_)).mono fun e W' ⟨he, bel, back⟩ => ?_
  · rw [Try.params10] at hn hty
    match avs, hn with
    | [a], _ =>
      obtain ⟨b, rfl, hb⟩ := (hty 0 _ a rfl rfl).bytes uBytes uByte (by kernel_rfl)
      have hr : reachBytes = 140737488351232 := rfl
      exact OracleParses_ac b (by omega)
  subst he
  have hlen := trodAll_len _ _ _ _ hA
  obtain ⟨d0, rfl⟩ : ∃ d0, ds = [d0] := by
    match ds, hlen with
    | [d0], _ => exact ⟨d0, rfl⟩
  exact ⟨_, rfl, _, _, _, [], _, [], hW', trodAll_mk1 (shut_bool Try.underlying4 _), back, rfl, bel.frame _, fun h => by cases h⟩
theorem over : Rows.oracleParsesRow.holds Try.pinned (OpenSpec.ofChange Rows.oracleParsesSpec) :=
  OpenClaim.holds_of_wide 10 Try.f10 rfl rfl rfl rfl rfl rfl rfl ⟨rfl, rfl, rfl, rfl, rfl⟩ rfl rfl rfl rfl rfl (by kernel_rfl) Try.func10 (by kernel_rfl)
    (of_decide_eq_true (by kernel_rfl)) (by unfold Func.isWrapper; first | (rw [if_pos (by decide +kernel)]; kernel_rfl) | (rw [if_neg (by decide +kernel)]; exact ⟨rfl, rfl⟩))
    (fun os started H enc _ => lifted os started H enc)
theorem proved : Rows.OracleParsesSaid := over
#print axioms proved
end Go.Proofs.Ytaojoppkkmpieaa.oracleParses
namespace Go.Proofs.Ytaojoppkkmpieaa
/-- The row, under a short name, for the claim. -/
theorem oracleParses_holds : Rows.OracleParsesSaid := oracleParses.proved
end Go.Proofs.Ytaojoppkkmpieaa
