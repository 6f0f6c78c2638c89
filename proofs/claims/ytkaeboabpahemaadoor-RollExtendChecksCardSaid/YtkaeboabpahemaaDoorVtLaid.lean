/- The package's table, as the row lists it: what the condition gives the walks. -/
import Derived.Test.YtkaeboabpahemaaDoorVtTyped
import Derived.Test.YtkaeboabpahemaaDoorRows
import Derived.LaidMore
import Derived.OpenShut
import Derived.Stop.Joined
import Derived.ProofKit
namespace Go.Proofs.YtkaeboabpahemaaDoor.VM
open Go Go.RowKit Go.ChangeShapes Go.WideShapes
theorem trod_table {H : Type} {enc : TypeId × Value → H} {P : Program} {w : World} {base : Nat} {sp : Nat → Bool} {held : Bool} {fuel : Nat} {t e n : Nat} {k : IntKind} {cs : List Value} {ns : List Int} {p : List MemPlace}
    (ht : P.underlying t = some (.array n e)) (he : P.underlying e = some (.int k)) (hc : P.cellsOf e = 1) (hn : P.cellsOf t = n) (h : DataW.trod enc P w base sp held fuel t cs = some (.agg (ns.map fun x => .lit (.int k x)), p)) : cs = ns.map fun x => Value.int k x := by
  obtain ⟨xs, m, rfl, hx, hl, hxl, hel⟩ := DataW.trod_array ht h
  simp only [Prod.mk.injEq, DataW.agg.injEq] at hx
  have hlen : ns.length = n := by
    have := congrArg List.length hx.1
    simpa [hxl] using this
  refine List.ext_getElem? fun i => ?_
  by_cases hi : i < n
  · have h1 := hel i hi
    obtain ⟨y, hy⟩ : ∃ y, xs[i]? = some y := ⟨xs[i]'(by omega), List.getElem?_eq_getElem (by omega)⟩
    rw [hy] at h1
    obtain ⟨r, e1, e2, _⟩ := DataW.trod_int he h1
    have h2 := congrArg (fun l => l[i]?) hx.1
    simp only [List.getElem?_map, hy, Option.map_some, e2] at h2
    obtain ⟨a, ha, hb⟩ := Option.map_eq_some_iff.1 h2
    simp only [DataW.lit.injEq, Lit.int.injEq, true_and] at hb
    subst hb
    rw [hc, Nat.mul_one] at e1
    have h3 := congrArg (fun l => l[0]?) e1
    simp only [List.getElem?_take, List.getElem?_drop, Nat.add_zero, List.getElem?_cons_zero] at h3
    rw [List.getElem?_map, ha]
    simpa using h3
  · rw [List.getElem?_eq_none (by omega), List.getElem?_eq_none (by simp; omega)]
abbrev laidL : List (String × DataW Unit) := [("chirograph/sum.steps", Rows.laid_chirograph_sum_steps)]
theorem gTab : Tryd.prog.globalNamed "chirograph/sum.steps" = some 0 := by kernel_rfl
theorem tTab : (Tryd.prog.globals[0]?).map (·.type) = some 111 := by kernel_rfl
def tabNs : List Int := [1116352408, 1899447441, 3049323471, 3921009573, 961987163, 1508970993, 2453635748, 2870763221, 3624381080, 310598401, 607225278, 1426881987, 1925078388, 2162078206, 2614888103, 3248222580, 3835390401, 4022224774, 264347078, 604807628, 770255983, 1249150122, 1555081692, 1996064986, 2554220882, 2821834349, 2952996808, 3210313671, 3336571891, 3584528711, 113926993, 338241895, 666307205, 773529912, 1294757372, 1396182291, 1695183700, 1986661051, 2177026350, 2456956037, 2730485921, 2820302411, 3259730800, 3345764771, 3516065817, 3600352804, 4094571909, 275423344, 430227734, 506948616, 659060556, 883997877, 958139571, 1322822218, 1537002063, 1747873779, 1955562222, 2024104815, 2227730452, 2361852424, 2428436474, 2756734187, 3204031479, 3329325298]
theorem tabNs_eq {H : Type} : (Rows.laid_chirograph_sum_steps : DataW H) = .agg (tabNs.map fun x => .lit (.int .u32 x)) := rfl
theorem tabs_eq : tabs = [(0, tabNs.map fun x => Value.int .u32 x)] := rfl
set_option maxRecDepth 100000 in
theorem door_met (os : Os) (args : Array Value) : laidMetH Tryd.prog laidL ((World.doorLaid Tryd.prog 400 os).forCall (fun _ _ => 0) ⟨#[], args, []⟩).memory :=
  laidMetH_of_parts3 (fuel := 8) (laidMet_of_run' 8 (by kernel_rfl) (by kernel_rfl)) (by kernel_rfl) (by kernel_rfl)
theorem tabs_laid {W : World} (h : laidMetH Tryd.prog laidL W) : Tabs (fun b => b < W.heap.size) W := by
  rw [MakeChecks.laidMetH_plain _ _ _ (by kernel_rfl)] at h
  obtain ⟨ps, ⟨g0, t0, cs0, f0, p0, q0, hg0, ht0, hv0, hd0, _⟩, _, _⟩ := h
  obtain rfl := Option.some.inj (gTab.symm.trans hg0)
  obtain rfl := Option.some.inj (tTab.symm.trans ht0)
  rw [tabNs_eq] at hd0
  have hcs := trod_table Tryd.underlying111 Tryd.underlying92 (by kernel_rfl) (by kernel_rfl) hd0
  have hcell : ∀ i, W.cell? ⟨0, i, none⟩ = (tabNs.map fun x => Value.int .u32 x)[i]? := by
    intro i
    rw [World.var?_cell hg0 hv0 i, ← hcs]
    simp
  have hlt : 0 < W.heap.size := by
    have h1 := hcell 0
    unfold World.cell? at h1
    split at h1
    · rename_i hh
      exact (Array.getElem?_eq_some_iff.1 hh).1
    · cases h1
  intro g
  rw [tabs_eq]
  unfold tabOf
  split
  · rename_i hg
    have hg2 := Nat.eq_of_beq_eq_true hg
    subst hg2
    refine .rptr _ 0 0 0 (fun i => ((tabNs.map fun x => Value.int .u32 x)[i]?).getD undef) hlt (fun i a ha => ?_) (fun i a ha => ?_)
    · rw [List.getElem?_map] at ha
      obtain ⟨v, hv, rfl⟩ := Option.map_eq_some_iff.1 ha
      rw [Nat.zero_add, hcell, hv]
      refine ⟨rfl, ?_⟩
      rw [List.getElem?_map] at hv
      obtain ⟨x, _, rfl⟩ := Option.map_eq_some_iff.1 hv
      rfl
    · rw [List.getElem?_map] at ha
      obtain ⟨v, hv, rfl⟩ := Option.map_eq_some_iff.1 ha
      rw [hv]
      refine .sc _ ?_
      rw [List.getElem?_map] at hv
      obtain ⟨x, _, rfl⟩ := Option.map_eq_some_iff.1 hv
      rfl
  · exact .any _
end Go.Proofs.YtkaeboabpahemaaDoor.VM
