/- table.Rows answers what the document says of the rows of the drawers that are open, by rising keys (P13.7), at every table and any open drawers: the law says true at every argument. -/
import Derived.Test.YtalnmpfjgiecdaaDoorRows
import Derived.Test.YtalnmpfjgiecdaaDoorVmLaw
import Derived.Test.YtalnmpfjgiecdaaDoorCards
import Derived.Test.YtalnmpfjgiecdaaDoorTie
import Derived.SevenTiedAt
import Derived.Test.YtalnmpfjgiecdaaDoorVtLaid
import Derived.Test.YtalnmpfjgiecdaaDoorPuTRowsC
import Derived.WalkKit
import Derived.ProofKit
import Derived.OpenShut
import Derived.ChangeOld
namespace Go.Proofs.YtalnmpfjgiecdaaDoor.tableRows
open Go.ChangeShapes Go.WideShapes Go.ChangeAt Go.RowKit
open Go.Proofs.YtalnmpfjgiecdaaDoor.VM
theorem own : ownKnob Tryd.prog.godebug = none := by kernel_rfl
theorem laidOut : laidOutB Tryd.prog = true := by kernel_rfl
set_option maxRecDepth 100000 in
theorem lifted (os : Os) (started : os.Started) (H : Type) (enc : TypeId × Value → H) :
    ReturnsInHanded {} Tryd.checked os 8 .any (fun w args => (Rows.tableRowsSpec.pre enc Tryd.prog Tryd.f8 Rows.tableRowsRow.domain false w args ∧ laidMetH Tryd.prog laidL w) ∧ sizedMet enc Tryd.prog Tryd.f8 (OpenSpec.ofChange Rows.tableRowsSpec) false w args) (Rows.tableRowsSpec.post enc Tryd.prog Tryd.f8 false true false false) := by
  refine returnsInHanded_of_change_and (C := Tryd.checked) (X := fun w _ => laidMetH Tryd.prog laidL w) (fun _ _ _ hh h => h.of_heap hh) own started (by kernel_rfl) Tryd.func8
    (ChangeSpec.witness_shaped (enc := enc) (C := Tryd.checked) (os := os) (X := fun w _ => laidMetH Tryd.prog laidL w) false (World.laidAll Tryd.prog os laidL) #[.agg #[.bool false, .string ⟨#[]⟩, .slice none 0 0, .bool false, .slice none 0 0, .bool false, .slice none 0 0, .bool false, .slice none 0 0, .bool false, .slice none 0 0, .bool false, .slice none 0 0, .bool false, .slice none 0 0, .bool false, .slice none 0 0, .bool false, .slice none 0 0], .agg #[.bool false, .bool false]] 8 (World.laidAll_os _ _ _) (World.shaped_of_ZipB (by kernel_rfl) (by kernel_rfl)) (by kernel_rfl) (by kernel_rfl) (by kernel_rfl) (laid_met os _)) ?_
  intro W base args ds gs before hval0 hW hcnd hsz0 hL _
  have hsz : (DataW.weightsEach Tryd.prog (Tryd.f8.params.toList ++ Rows.tableRowsSpec.plain.varTypes Tryd.prog) (ds ++ gs)).all (· ≤ reachBytes) = true := hsz0
  have hval : ∀ (j : Nat) t v, Tryd.f8.params[j]? = some t → args[j]? = some v → Value.okWide Tryd.prog W .any base t v := hval0
  have hW' := hW
  obtain ⟨p, q, hA0, hV, rfl, hfz, hnd⟩ := hW
  have hA : DataW.TrodAll enc Tryd.prog W 0 (fun _ => true) true Tryd.f8.params.toList args.toList ds p := hA0
  obtain ⟨rfl, rfl⟩ := trodVars_none hV
  refine (rowCall (d := 7) laidOut (by kernel_rfl) hA (by kernel_rfl) hsz (fun j t v ht hv => hval j t v (by simpa using ht) hv) (tabs_laid hL) (fun avs hn hty hbulk => ?_)).mono fun e W' ⟨he, bel, back⟩ => ?_
  · rw [Tryd.params8] at hn hty
    match avs, hn with
    | [a0, a1], _ =>
      obtain ⟨c0, rfl, hc0⟩ := (hty 0 _ a0 rfl rfl).struct Tryd.underlying46
      obtain ⟨x0, rfl, q0⟩ := ty_46 hc0
      obtain ⟨c1, rfl, hc1⟩ := (hty 1 _ a1 rfl rfl).array Tryd.underlying49
      obtain ⟨x1, rfl, q1⟩ := ty_49 hc1
      exact g_law_TableRows_ac (g_law_TableRows_true q0 q1)
  subst he
  have hlen := trodAll_len _ _ _ _ hA
  obtain ⟨d0, d1, rfl⟩ : ∃ d0 d1, ds = [d0, d1] := by
    match ds, hlen with
    | [d0, d1], _ => exact ⟨d0, d1, rfl⟩
  exact ⟨_, rfl, _, _, _, [], _, [], hW', trodAll_mk1 (shut_bool Tryd.underlying4 _), back, rfl, bel.frame _, fun h => by cases h⟩
theorem over : Rows.tableRowsRow.holds Tryd.pinned (OpenSpec.ofChange Rows.tableRowsSpec) :=
  OpenClaim.holds_of_wide 8 Tryd.f8 rfl rfl rfl rfl rfl rfl rfl ⟨rfl, rfl, rfl, rfl, rfl⟩ rfl rfl rfl rfl rfl (by kernel_rfl) Tryd.func8 (by kernel_rfl)
    (of_decide_eq_true (by kernel_rfl)) (by unfold Func.isWrapper; first | (rw [if_pos (by decide +kernel)]; kernel_rfl) | (rw [if_neg (by decide +kernel)]; exact ⟨rfl, rfl⟩))
    (fun os started H enc _ => lifted os started H enc)
theorem proved : Rows.TableRowsSaid := over
#print axioms proved
set_option maxRecDepth 100000 in
/-- The row's tied card. -/
theorem card : Rows.TableRowsCardSaid :=
  Claim7.holds_tied_plain_at .later [] Rows.tableRowsCard.laidKinds true Rows.tableRowsCard.stood.harness false
    proved (fun _ h => by cases h) (by kernel_rfl) (fun _ h => by cases h) tableRows_row_tie rfl ⟨rfl, rfl⟩ (by kernel_rfl) rfl
    (fun f fn hf hfn => by
      obtain rfl : f = 8 := Option.some.inj ((show Tryd.prog.funcNamed Rows.tableRowsRow.func = some 8 by kernel_rfl).symm.trans hf) |>.symm
      obtain rfl : fn = Tryd.f8 := (Option.some.inj (Tryd.func8.symm.trans hfn)).symm
      exact ⟨by kernel_rfl, fun j t ht => by
        have hm : t ∈ Tryd.f8.params.toList := by simpa using Array.mem_of_getElem? ht
        have hall : (Tryd.f8.params.toList.all fun u => !Tryd.prog.wantsStandIn u) = true := by kernel_rfl
        exact (show Tryd.prog.wantsStandIn t = false by simpa using List.all_eq_true.1 hall t hm)⟩)
    (by kernel_rfl)
#print axioms card
end Go.Proofs.YtalnmpfjgiecdaaDoor.tableRows
namespace Go.Proofs.YtalnmpfjgiecdaaDoor
/-- The row's tied card, under a short name, for the claim. -/
theorem tableRows_holds : Rows.TableRowsCardSaid := tableRows.card
end Go.Proofs.YtalnmpfjgiecdaaDoor
