/- wire.Feed and ref.Fed answer the same, for all bytes of bulk at most 1048576. -/
import Derived.Test.YtaojoppkkmpieaaRows
import Derived.Test.YtaojoppkkmpieaaVmLaw
import Derived.Test.YtaojoppkkmpieaaFnWireFeeds
import Derived.WalkKit
import Derived.ProofKit
import Derived.OpenShut
import Derived.ChangeOld
import Derived.JoinedCond
import Derived.Deep.CondSized
namespace Go.Proofs.Ytaojoppkkmpieaa.wireFeedsUpto
open Go.ChangeShapes Go.WideShapes Go.ChangeAt Go.RowKit
open Go.Proofs.Ytaojoppkkmpieaa.VM
theorem own : ownKnob Try.prog.godebug = none := by kernel_rfl
theorem laidOut : laidOutB Try.prog = true := by kernel_rfl
set_option maxRecDepth 100000 in
theorem lifted (os : Os) (started : os.Started) (H : Type) (enc : TypeId × Value → H) (F : Stop.Interp) :
    ReturnsInHanded {} Try.checked os 8 .any ((Rows.OpenSpec.upto Rows.wireFeedsSpec).pre6 enc Try.prog Try.f8 Rows.wireFeedsUptoRow.domain false) (((Rows.OpenSpec.upto Rows.wireFeedsSpec).at F).post enc Try.prog Try.f8 false true false false) := by
  refine returnsInHanded_of_cond_sized (C := Try.checked) (s := Rows.OpenSpec.upto Rows.wireFeedsSpec) (k := Rows.uptoSmall) rfl own started (by kernel_rfl) Try.func8
    (OpenSpec.witness (enc := enc) (C := Try.checked) (s := Rows.OpenSpec.upto Rows.wireFeedsSpec) (k := Rows.uptoSmall) rfl false ⟨#[], #[.slice none 0 0, .slice none 0 0], []⟩ 8 (by kernel_rfl) (by kernel_rfl) (by kernel_rfl)
      (x := ([.nil, .nil], [], [])) (by kernel_rfl) rfl (by kernel_rfl)) ?_
  intro W base args ds gs before hval0 hW hcnd hkk hsz0 _
  have hsz : (DataW.weightsEach Try.prog (Try.f8.params.toList ++ Rows.wireFeedsSpec.plain.varTypes Try.prog) (ds ++ gs)).all (· ≤ reachBytes) = true := hsz0
  have hval : ∀ (j : Nat) t v, Try.f8.params[j]? = some t → args[j]? = some v → Value.okWide Try.prog W .any base t v := hval0
  have hW' := hW
  obtain ⟨p, q, hA0, hV, rfl, hfz, hnd⟩ := hW
  have hA : DataW.TrodAll enc Try.prog W 0 (fun _ => true) true Try.f8.params.toList args.toList ds p := hA0
  obtain ⟨rfl, rfl⟩ := trodVars_none hV
  have hkk2 : Rows.uptoBulkAll (ds ++ []) ≤ 1048576 := of_decide_eq_true hkk
  rw [List.append_nil] at hkk2
  refine (rowCall (d := 3) laidOut (by kernel_rfl) hA (by kernel_rfl) hsz (fun j t v ht hv => hval j t v (by simpa using ht) hv) (fun avs hn hty hbulk0 => ?_)).mono fun e W' ⟨he, bel, back⟩ => ?_
  · have hbulk : avBulkL avs ≤ 1048576 := Nat.le_trans hbulk0 hkk2
    rw [Try.params8] at hn hty
    match avs, hn with
    | [a, c], _ =>
      obtain ⟨held, rfl, _⟩ := (hty 0 _ a rfl rfl).bytes uBytes uByte (by kernel_rfl)
      obtain ⟨b, rfl, _⟩ := (hty 1 _ c rfl rfl).bytes uBytes uByte (by kernel_rfl)
      refine WireFeeds_ac held b ?_
      have h1 := bulk_bytes held
      have h2 := bulk_bytes b
      simp only [avBulkL] at hbulk
      omega
  subst he
  have hlen := trodAll_len _ _ _ _ hA
  obtain ⟨d0, d1, rfl⟩ : ∃ d0 d1, ds = [d0, d1] := by
    match ds, hlen with
    | [d0, d1], _ => exact ⟨d0, d1, rfl⟩
  exact ⟨_, rfl, _, _, _, [], _, [], hW', trodAll_mk1 (shut_bool Try.underlying4 _), back, rfl, bel.frame _, fun h => by cases h⟩
theorem over : Rows.wireFeedsUptoRow.holds Try.pinned (Rows.OpenSpec.upto Rows.wireFeedsSpec) :=
  OpenClaim.holds_of_cond 8 Try.f8 rfl rfl rfl rfl rfl rfl rfl ⟨rfl, rfl, rfl, rfl, rfl⟩ rfl rfl rfl rfl rfl (by kernel_rfl) Try.func8 (by kernel_rfl)
    (of_decide_eq_true (by kernel_rfl)) (by unfold Func.isWrapper; first | (rw [if_pos (by decide +kernel)]; kernel_rfl) | (rw [if_neg (by decide +kernel)]; exact ⟨rfl, rfl⟩))
    (fun os started H enc _ F => lifted os started H enc F)
theorem proved : Rows.WireFeedsUptoSaid := over
#print axioms proved
end Go.Proofs.Ytaojoppkkmpieaa.wireFeedsUpto
namespace Go.Proofs.Ytaojoppkkmpieaa
/-- The row, under a short name, for the claim. -/
theorem wireFeedsUpto_holds : Rows.WireFeedsUptoSaid := wireFeedsUpto.proved
end Go.Proofs.Ytaojoppkkmpieaa
