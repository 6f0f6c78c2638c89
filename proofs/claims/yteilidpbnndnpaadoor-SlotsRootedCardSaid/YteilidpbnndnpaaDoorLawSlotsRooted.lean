/- slots.Rooted answers what the document says of the root of slots that have a cover (P5.6), at every mode, openings and cover: the law says true at every argument. -/
import Derived.Test.YteilidpbnndnpaaDoorRows
import Derived.Test.YteilidpbnndnpaaDoorVmLaw
import Derived.Test.YteilidpbnndnpaaDoorCards
import Derived.Test.YteilidpbnndnpaaDoorTie
import Derived.SevenTiedAt
import Derived.Test.YteilidpbnndnpaaDoorVtLaid
import Derived.Test.YteilidpbnndnpaaDoorPuRooted
import Derived.WalkKit
import Derived.ProofKit
import Derived.OpenShut
import Derived.ChangeOld
namespace Go.Proofs.YteilidpbnndnpaaDoor.slotsRooted
open Go.ChangeShapes Go.WideShapes Go.ChangeAt Go.RowKit
open Go.Proofs.YteilidpbnndnpaaDoor.VM
theorem own : ownKnob Tryd.prog.godebug = none := by kernel_rfl
theorem laidOut : laidOutB Tryd.prog = true := by kernel_rfl
set_option maxRecDepth 100000 in
theorem lifted (os : Os) (started : os.Started) (H : Type) (enc : TypeId × Value → H) :
    ReturnsInHanded {} Tryd.checked os 3 .any (fun w args => (Rows.slotsRootedSpec.pre enc Tryd.prog Tryd.f3 Rows.slotsRootedRow.domain false w args ∧ laidMetH Tryd.prog laidL w) ∧ sizedMet enc Tryd.prog Tryd.f3 (OpenSpec.ofChange Rows.slotsRootedSpec) false w args) (Rows.slotsRootedSpec.post enc Tryd.prog Tryd.f3 false true false false) := by
  refine returnsInHanded_of_change_and (C := Tryd.checked) (X := fun w _ => laidMetH Tryd.prog laidL w) (fun _ _ _ hh h => h.of_heap hh) own started (by kernel_rfl) Tryd.func3
    (ChangeSpec.witness_shaped (enc := enc) (C := Tryd.checked) (os := os) (X := fun w _ => laidMetH Tryd.prog laidL w) false (World.laidAll Tryd.prog os laidL) #[.int .i64 0, .slice none 0 0, .agg #[.slice none 0 0, .slice none 0 0]] 8 (World.laidAll_os _ _ _) (World.shaped_of_ZipB (by kernel_rfl) (by kernel_rfl)) (by kernel_rfl) (by kernel_rfl) (by kernel_rfl) (laid_met os _)) ?_
  intro W base args ds gs before hval0 hW hcnd hsz0 hL _
  have hsz : (DataW.weightsEach Tryd.prog (Tryd.f3.params.toList ++ Rows.slotsRootedSpec.plain.varTypes Tryd.prog) (ds ++ gs)).all (· ≤ reachBytes) = true := hsz0
  have hval : ∀ (j : Nat) t v, Tryd.f3.params[j]? = some t → args[j]? = some v → Value.okWide Tryd.prog W .any base t v := hval0
  have hW' := hW
  obtain ⟨p, q, hA0, hV, rfl, hfz, hnd⟩ := hW
  have hA : DataW.TrodAll enc Tryd.prog W 0 (fun _ => true) true Tryd.f3.params.toList args.toList ds p := hA0
  obtain ⟨rfl, rfl⟩ := trodVars_none hV
  refine (rowCall (d := 5) laidOut (by kernel_rfl) hA (by kernel_rfl) hsz (fun j t v ht hv => hval j t v (by simpa using ht) hv) (tabs_laid hL) (fun avs hn hty hbulk => ?_)).mono fun e W' ⟨he, bel, back⟩ => ?_
  · rw [Tryd.params3] at hn hty
    match avs, hn with
    | [a0, a1, a2], _ =>
      obtain ⟨x0, hc0, q0⟩ := ty_3 ((hty 0 _ a0 rfl rfl).one Tryd.underlying3 rfl)
      obtain rfl := one_inj hc0
      obtain ⟨x1, hc1, q1⟩ := ty_22 ((hty 1 _ a1 rfl rfl).one Tryd.underlying22 rfl)
      obtain rfl := one_inj hc1
      obtain ⟨c2, rfl, hc2⟩ := (hty 2 _ a2 rfl rfl).struct Tryd.underlying26
      obtain ⟨x2, rfl, q2⟩ := ty_26 hc2
      exact g_law_SlotsRooted_ac (g_law_SlotsRooted_true q0 q1 q2)
  subst he
  have hlen := trodAll_len _ _ _ _ hA
  obtain ⟨d0, d1, d2, rfl⟩ : ∃ d0 d1 d2, ds = [d0, d1, d2] := by
    match ds, hlen with
    | [d0, d1, d2], _ => exact ⟨d0, d1, d2, rfl⟩
  exact ⟨_, rfl, _, _, _, [], _, [], hW', trodAll_mk1 (shut_bool Tryd.underlying4 _), back, rfl, bel.frame _, fun h => by cases h⟩
theorem over : Rows.slotsRootedRow.holds Tryd.pinned (OpenSpec.ofChange Rows.slotsRootedSpec) :=
  OpenClaim.holds_of_wide 3 Tryd.f3 rfl rfl rfl rfl rfl rfl rfl ⟨rfl, rfl, rfl, rfl, rfl⟩ rfl rfl rfl rfl rfl (by kernel_rfl) Tryd.func3 (by kernel_rfl)
    (of_decide_eq_true (by kernel_rfl)) (by unfold Func.isWrapper; first | (rw [if_pos (by decide +kernel)]; kernel_rfl) | (rw [if_neg (by decide +kernel)]; exact ⟨rfl, rfl⟩))
    (fun os started H enc _ => lifted os started H enc)
theorem proved : Rows.SlotsRootedSaid := over
#print axioms proved
set_option maxRecDepth 100000 in
/-- The row's tied card. -/
theorem card : Rows.SlotsRootedCardSaid :=
  Claim7.holds_tied_plain_at .later [] Rows.slotsRootedCard.laidKinds true Rows.slotsRootedCard.stood.harness false
    proved (fun _ h => by cases h) (by kernel_rfl) (fun _ h => by cases h) slotsRooted_row_tie rfl ⟨rfl, rfl⟩ (by kernel_rfl) rfl
    (fun f fn hf hfn => by
      obtain rfl : f = 3 := Option.some.inj ((show Tryd.prog.funcNamed Rows.slotsRootedRow.func = some 3 by kernel_rfl).symm.trans hf) |>.symm
      obtain rfl : fn = Tryd.f3 := (Option.some.inj (Tryd.func3.symm.trans hfn)).symm
      exact ⟨by kernel_rfl, fun j t ht => by
        have hm : t ∈ Tryd.f3.params.toList := by simpa using Array.mem_of_getElem? ht
        have hall : (Tryd.f3.params.toList.all fun u => !Tryd.prog.wantsStandIn u) = true := by kernel_rfl
        exact (show Tryd.prog.wantsStandIn t = false by simpa using List.all_eq_true.1 hall t hm)⟩)
    (by kernel_rfl)
#print axioms card
end Go.Proofs.YteilidpbnndnpaaDoor.slotsRooted
namespace Go.Proofs.YteilidpbnndnpaaDoor
/-- The row's tied card, under a short name, for the claim. -/
theorem slotsRooted_holds : Rows.SlotsRootedCardSaid := slotsRooted.card
end Go.Proofs.YteilidpbnndnpaaDoor
