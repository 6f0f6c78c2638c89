/- table.Update answers what P13.5 says, at every argument. -/
import Derived.Test.YthnkbagmaljjjaaGreatDoorRows
import Derived.Test.YthnkbagmaljjjaaGreatDoorVmLaw
import Derived.Test.YthnkbagmaljjjaaGreatDoorVmReadR
import Derived.Test.YthnkbagmaljjjaaGreatDoorCards
import Derived.Test.YthnkbagmaljjjaaGreatDoorTie
import Derived.SevenTiedAt
import Derived.Test.YthnkbagmaljjjaaGreatDoorVtLaid
import Derived.Test.YthnkbagmaljjjaaGreatDoorPuUpdC
import Derived.WalkKit
import Derived.ProofKit
import Derived.OpenShut
import Derived.ChangeOld
namespace Go.Proofs.YthnkbagmaljjjaaGreatDoor.tableUpdates
open Go.ChangeShapes Go.WideShapes Go.ChangeAt Go.RowKit
open Go.Proofs.YthnkbagmaljjjaaGreatDoor.VM
theorem own : ownKnob Tryz.prog.godebug = none := by kernel_rfl
theorem laidOut : laidOutB Tryz.prog = true := by kernel_rfl
set_option maxRecDepth 100000 in
theorem lifted (os : Os) (started : os.Started) (H : Type) (enc : TypeId × Value → H) :
    ReturnsInHanded {} Tryz.checked os 4 .any (fun w args => (Rows.tableUpdatesSpec.pre enc Tryz.prog Tryz.f4 Rows.tableUpdatesRow.domain false w args ∧ laidMetH Tryz.prog laidL w) ∧ sizedMet enc Tryz.prog Tryz.f4 (OpenSpec.ofChange Rows.tableUpdatesSpec) false w args) (Rows.tableUpdatesSpec.post enc Tryz.prog Tryz.f4 false true false false) := by
  refine returnsInHanded_of_change_and (C := Tryz.checked) (X := fun w _ => laidMetH Tryz.prog laidL w) (fun _ _ _ hh h => h.of_heap hh) own started (by kernel_rfl) Tryz.func4
    (ChangeSpec.witness_shaped (enc := enc) (C := Tryz.checked) (os := os) (X := fun w _ => laidMetH Tryz.prog laidL w) false (World.laidAll Tryz.prog os laidL) #[.agg #[.bool false, .string ⟨#[]⟩, .slice none 0 0, .bool false, .slice none 0 0, .bool false, .slice none 0 0, .bool false, .slice none 0 0, .bool false, .slice none 0 0, .bool false, .slice none 0 0, .bool false, .slice none 0 0, .bool false, .slice none 0 0, .bool false, .slice none 0 0], .int .i64 0, .agg #[.int .i64 0, .int .i64 0, .int .i64 0, .int .u64 0, .string ⟨#[]⟩, .string ⟨#[]⟩, .slice none 0 0], .slice none 0 0] 8 (World.laidAll_os _ _ _) (World.shaped_of_ZipB (by kernel_rfl) (by kernel_rfl)) (by kernel_rfl) (by kernel_rfl) (by kernel_rfl) (laid_met os _)) ?_
  intro W base args ds gs before hval0 hW hcnd hsz0 hL _
  have hsz : (DataW.weightsEach Tryz.prog (Tryz.f4.params.toList ++ Rows.tableUpdatesSpec.plain.varTypes Tryz.prog) (ds ++ gs)).all (· ≤ reachBytes) = true := hsz0
  have hval : ∀ (j : Nat) t v, Tryz.f4.params[j]? = some t → args[j]? = some v → Value.okWide Tryz.prog W .any base t v := hval0
  have hW' := hW
  obtain ⟨p, q, hA0, hV, rfl, hfz, hnd⟩ := hW
  have hA : DataW.TrodAll enc Tryz.prog W 0 (fun _ => true) true Tryz.f4.params.toList args.toList ds p := hA0
  obtain ⟨rfl, rfl⟩ := trodVars_none hV
  refine (rowCallR (S := [3, 4, 9, 22, 23, 25, 26, 27, 29, 30, 32, 33, 35, 41, 58, 63]) laidOut (by kernel_rfl) hA (by kernel_rfl) (by kernel_rfl) hsz (fun j t v ht hv => hval j t v (by simpa using ht) hv) (tabs_laid hL) (fun avs hn hty hbulk => ?_)).mono fun e W' ⟨he, bel, back⟩ => ?_
  · rw [Tryz.params4] at hn hty
    match avs, hn with
    | [a0, a1, a2, a3], _ =>
      obtain ⟨c0, rfl, hc0⟩ := (hty 0 _ a0 rfl rfl).choose_spec.struct Tryz.underlying29
      obtain ⟨x0, rfl, q0⟩ := ty_29 hc0
      obtain ⟨x1, hc1, q1⟩ := ty_3 ((hty 1 _ a1 rfl rfl).choose_spec.one Tryz.underlying3 rfl)
      obtain rfl := one_inj hc1
      obtain ⟨c2, rfl, hc2⟩ := (hty 2 _ a2 rfl rfl).choose_spec.struct Tryz.underlying35
      obtain ⟨x2, rfl, q2⟩ := ty_35 hc2
      obtain ⟨x3, hc3, q3⟩ := ty_41 ((hty 3 _ a3 rfl rfl).choose_spec.one Tryz.underlying41 rfl)
      obtain rfl := one_inj hc3
      exact g_law_TableUpdates_ac (g_law_TableUpdates_true q0 q1 q2 q3)
  subst he
  have hlen := trodAll_len _ _ _ _ hA
  obtain ⟨d0, d1, d2, d3, rfl⟩ : ∃ d0 d1 d2 d3, ds = [d0, d1, d2, d3] := by
    match ds, hlen with
    | [d0, d1, d2, d3], _ => exact ⟨d0, d1, d2, d3, rfl⟩
  exact ⟨_, rfl, _, _, _, [], _, [], hW', trodAll_mk1 (shut_bool Tryz.underlying4 _), back, rfl, bel.frame _, fun h => by cases h⟩
theorem over : Rows.tableUpdatesRow.holds Tryz.pinned (OpenSpec.ofChange Rows.tableUpdatesSpec) :=
  OpenClaim.holds_of_wide 4 Tryz.f4 rfl rfl rfl rfl rfl rfl rfl ⟨rfl, rfl, rfl, rfl, rfl⟩ rfl rfl rfl rfl rfl (by kernel_rfl) Tryz.func4 (by kernel_rfl)
    (of_decide_eq_true (by kernel_rfl)) (by unfold Func.isWrapper; first | (rw [if_pos (by decide +kernel)]; kernel_rfl) | (rw [if_neg (by decide +kernel)]; exact ⟨rfl, rfl⟩))
    (fun os started H enc _ => lifted os started H enc)
theorem proved : Rows.TableUpdatesSaid := over
#print axioms proved
set_option maxRecDepth 100000 in
/-- The row's tied card. -/
theorem card : Rows.TableUpdatesCardSaid :=
  Claim7.holds_tied_plain_at .later [] Rows.tableUpdatesCard.laidKinds true Rows.tableUpdatesCard.stood.harness Rows.tableUpdatesCard.stood.looks
    proved (fun _ h => by cases h) (by kernel_rfl) (fun _ h => by cases h) tableUpdates_row_tie rfl ⟨rfl, rfl⟩ (by kernel_rfl) rfl
    (fun f fn hf hfn => by
      obtain rfl : f = 4 := Option.some.inj ((show Tryz.prog.funcNamed Rows.tableUpdatesRow.func = some 4 by kernel_rfl).symm.trans hf) |>.symm
      obtain rfl : fn = Tryz.f4 := (Option.some.inj (Tryz.func4.symm.trans hfn)).symm
      exact ⟨by kernel_rfl, fun j t ht => by
        have hm : t ∈ Tryz.f4.params.toList := by simpa using Array.mem_of_getElem? ht
        have hall : (Tryz.f4.params.toList.all fun u => !Tryz.prog.wantsStandIn u) = true := by kernel_rfl
        exact (show Tryz.prog.wantsStandIn t = false by simpa using List.all_eq_true.1 hall t hm)⟩)
    (by kernel_rfl)
#print axioms card
end Go.Proofs.YthnkbagmaljjjaaGreatDoor.tableUpdates
namespace Go.Proofs.YthnkbagmaljjjaaGreatDoor
/-- The row's tied card, under a short name, for the claim. -/
theorem tableUpdates_holds : Rows.TableUpdatesCardSaid := tableUpdates.card
end Go.Proofs.YthnkbagmaljjjaaGreatDoor
