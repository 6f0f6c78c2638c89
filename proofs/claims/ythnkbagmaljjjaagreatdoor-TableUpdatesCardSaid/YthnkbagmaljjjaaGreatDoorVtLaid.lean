/- The package's tables, as the row lists them: what the condition gives the walks. -/
import Derived.Test.YthnkbagmaljjjaaGreatDoorVtTyped
import Derived.Test.YthnkbagmaljjjaaGreatDoorRows
import Derived.LaidMore
import Derived.Lay
import Derived.OpenShut
import Derived.ChangeSame
import Derived.Stop.Joined
import Derived.ProofKit
namespace Go.Proofs.YthnkbagmaljjjaaGreatDoor.VM
open Go Go.RowKit Go.ChangeShapes Go.WideShapes
theorem trod_table {H : Type} {enc : TypeId × Value → H} {P : Program} {w : World} {base : Nat} {sp : Nat → Bool} {held : Bool} {fuel : Nat} {t e n : Nat} {k : IntKind} {cs : List Value} {ns : List Int} {p : List MemPlace}
    (ht : P.underlying t = some (.array n e)) (he : P.underlying e = some (.int k)) (hc : P.cellsOf e = 1) (hn : P.cellsOf t = n) (h : DataW.trod enc P w base sp held fuel t cs = some (.agg (ns.map fun x => .lit (.int k x)), p)) : cs = ns.map fun x => Value.int k x := by
  obtain ⟨xs, m, rfl, hx, hl, hxl, hel⟩ := DataW.trod_array ht h
  simp only [Prod.mk.injEq, DataW.agg.injEq] at hx
  have hlen : ns.length = n := by
    have := congrArg List.length hx.1
    simpa [hxl] using this
  refine List.ext_getElem? fun i => ?_
  by_cases hi : i < n
  · have h1 := hel i hi
    obtain ⟨y, hy⟩ : ∃ y, xs[i]? = some y := ⟨xs[i]'(by omega), List.getElem?_eq_getElem (by omega)⟩
    rw [hy] at h1
    obtain ⟨r, e1, e2, _⟩ := DataW.trod_int he h1
    have h2 := congrArg (fun l => l[i]?) hx.1
    simp only [List.getElem?_map, hy, Option.map_some, e2] at h2
    obtain ⟨a, ha, hb⟩ := Option.map_eq_some_iff.1 h2
    simp only [DataW.lit.injEq, Lit.int.injEq, true_and] at hb
    subst hb
    rw [hc, Nat.mul_one] at e1
    have h3 := congrArg (fun l => l[0]?) e1
    simp only [List.getElem?_take, List.getElem?_drop, Nat.add_zero, List.getElem?_cons_zero] at h3
    rw [List.getElem?_map, ha]
    simpa using h3
  · rw [List.getElem?_eq_none (by omega), List.getElem?_eq_none (by simp; omega)]
theorem chunks2 {α β : Type} {g : β → List α} : ∀ (ns : List β) (cs : List α), cs.length = ns.length * 2 → (∀ i x, ns[i]? = some x → (cs.drop (i * 2)).take 2 = g x) → cs = ns.flatMap g
  | [], cs, h, _ => by
    have : cs.length = 0 := by simpa using h
    rw [List.length_eq_zero_iff.1 this]
    rfl
  | n :: ns, cs, h, he => by
    have h0 := he 0 n rfl
    rw [Nat.zero_mul, List.drop_zero] at h0
    have ih := chunks2 ns (cs.drop 2) (by rw [List.length_drop, h, List.length_cons]; omega) (fun i x hx => by
      have := he (i + 1) x (by simpa using hx)
      rw [List.drop_drop, show 2 + i * 2 = (i + 1) * 2 by omega]
      exact this)
    rw [List.flatMap_cons, ← h0, ← ih, List.take_append_drop]
theorem trod_table2 {H : Type} {enc : TypeId × Value → H} {P : Program} {w : World} {base : Nat} {sp : Nat → Bool} {held : Bool} {fuel : Nat} {t e n : Nat} {f0 f1 : Field} {k : IntKind} {cs : List Value} {ns : List (Int × Int)} {p : List MemPlace}
    (ht : P.underlying t = some (.array n e)) (he : P.underlying e = some (.struct #[f0, f1])) (h0 : P.underlying f0.type = some (.int k)) (h1 : P.underlying f1.type = some (.int k)) (o0 : f0.offset = 0) (o1 : f1.offset = 1) (c0 : P.cellsOf f0.type = 1) (c1 : P.cellsOf f1.type = 1) (hc : P.cellsOf e = 2) (hn : P.cellsOf t = n * 2)
    (h : DataW.trod enc P w base sp held fuel t cs = some (.agg (ns.map fun x => .agg [.lit (.int k x.1), .lit (.int k x.2)]), p)) : cs = ns.flatMap fun x => [Value.int k x.1, Value.int k x.2] := by
  obtain ⟨xs, m, rfl, hx, hl, hxl, hel⟩ := DataW.trod_array ht h
  simp only [Prod.mk.injEq, DataW.agg.injEq] at hx
  have hlen : ns.length = n := by
    have := congrArg List.length hx.1
    simpa [hxl] using this
  refine chunks2 ns cs (by rw [hl, hn, hlen]) fun i x hix => ?_
  have hi : i < n := by
    rw [← hlen]
    exact (List.getElem?_eq_some_iff.1 hix).1
  have e1 := hel i hi
  rw [hc] at e1
  obtain ⟨y, hy⟩ : ∃ y, xs[i]? = some y := ⟨xs[i]'(by omega), List.getElem?_eq_getElem (by omega)⟩
  rw [hy] at e1
  obtain ⟨y0, y1, m', rfl, hl2, ha, hb⟩ := trod_struct2 he e1
  obtain ⟨r0, a1, a2, _⟩ := DataW.trod_int h0 ha
  obtain ⟨r1, b1, b2, _⟩ := DataW.trod_int h1 hb
  have h2 := congrArg (fun l => l[i]?) hx.1
  simp only [List.getElem?_map, hy, hix, Option.map_some, a2, b2, Option.some.injEq, DataW.agg.injEq, List.cons.injEq, DataW.lit.injEq, Lit.int.injEq, true_and, and_true] at h2
  rw [o0, c0, List.drop_zero] at a1
  rw [o1, c1] at b1
  rw [hc] at hl2
  generalize (cs.drop (i * 2)).take 2 = ch at *
  match ch, hl2 with
  | [u, v], _ =>
    simp only [List.take, List.drop, List.cons.injEq, and_true] at a1 b1
    rw [a1, b1, h2.1, h2.2]
theorem var_lt {W : World} {n : String} {g : Nat} {cs : Array Value} {P : Program} {vs : List Value} (hg : P.globalNamed n = some g) (hv : W.var? P n = some cs) (hcs : cs.toList = vs) (hne : vs[0]? ≠ none) : (∀ i, W.cell? ⟨g, i, none⟩ = vs[i]?) ∧ g < W.heap.size := by
  have hcell : ∀ i, W.cell? ⟨g, i, none⟩ = vs[i]? := by
    intro i
    rw [World.var?_cell hg hv i, ← hcs]
    simp
  refine ⟨hcell, ?_⟩
  have h1 := hcell 0
  unfold World.cell? at h1
  split at h1
  · rename_i hh
    exact (Array.getElem?_eq_some_iff.1 hh).1
  · exact absurd h1.symm hne
theorem tab_rel {W : World} {g : Nat} {vs : List Value} (hv : (∀ i, W.cell? ⟨g, i, none⟩ = vs[i]?) ∧ g < W.heap.size) (h1 : vs.all Value.oneCell' = true) : Rel (fun b => b < W.heap.size) W (.rptr (vs.map .sc) 0) (.pointer (some ⟨g, 0, none⟩)) := by
  refine .rptr _ 0 g 0 (fun i => (vs[i]?).getD undef) hv.2 (fun i a ha => ?_) (fun i a ha => ?_)
  · rw [List.getElem?_map] at ha
    obtain ⟨v, hv2, rfl⟩ := Option.map_eq_some_iff.1 ha
    rw [Nat.zero_add, hv.1, hv2]
    exact ⟨rfl, List.all_eq_true.1 h1 v (List.mem_of_getElem? hv2)⟩
  · rw [List.getElem?_map] at ha
    obtain ⟨v, hv2, rfl⟩ := Option.map_eq_some_iff.1 ha
    rw [hv2]
    exact .sc _ (List.all_eq_true.1 h1 v (List.mem_of_getElem? hv2))
abbrev laidL : List (String × DataW Unit) := [("unicode/utf8.acceptRanges", Rows.laid_unicode_utf8_acceptRanges), ("unicode/utf8.first", Rows.laid_unicode_utf8_first)]
theorem gTab1 : Tryz.prog.globalNamed "unicode/utf8.acceptRanges" = some 1 := by kernel_rfl
theorem tTab1 : (Tryz.prog.globals[1]?).map (·.type) = some 134 := by kernel_rfl
def tabNs1 : List (Int × Int) := [(128, 191), (160, 191), (128, 159), (144, 191), (128, 143), (0, 0), (0, 0), (0, 0), (0, 0), (0, 0), (0, 0), (0, 0), (0, 0), (0, 0), (0, 0), (0, 0)]
theorem tabNs1_eq : (Rows.laid_unicode_utf8_acceptRanges : DataW Unit) = .agg (tabNs1.map fun x => .agg [.lit (.int .u8 x.1), .lit (.int .u8 x.2)]) := by kernel_rfl
theorem gTab0 : Tryz.prog.globalNamed "unicode/utf8.first" = some 0 := by kernel_rfl
theorem tTab0 : (Tryz.prog.globals[0]?).map (·.type) = some 131 := by kernel_rfl
def tabNs0 : List Int := [240, 240, 240, 240, 240, 240, 240, 240, 240, 240, 240, 240, 240, 240, 240, 240, 240, 240, 240, 240, 240, 240, 240, 240, 240, 240, 240, 240, 240, 240, 240, 240, 240, 240, 240, 240, 240, 240, 240, 240, 240, 240, 240, 240, 240, 240, 240, 240, 240, 240, 240, 240, 240, 240, 240, 240, 240, 240, 240, 240, 240, 240, 240, 240, 240, 240, 240, 240, 240, 240, 240, 240, 240, 240, 240, 240, 240, 240, 240, 240, 240, 240, 240, 240, 240, 240, 240, 240, 240, 240, 240, 240, 240, 240, 240, 240, 240, 240, 240, 240, 240, 240, 240, 240, 240, 240, 240, 240, 240, 240, 240, 240, 240, 240, 240, 240, 240, 240, 240, 240, 240, 240, 240, 240, 240, 240, 240, 240, 241, 241, 241, 241, 241, 241, 241, 241, 241, 241, 241, 241, 241, 241, 241, 241, 241, 241, 241, 241, 241, 241, 241, 241, 241, 241, 241, 241, 241, 241, 241, 241, 241, 241, 241, 241, 241, 241, 241, 241, 241, 241, 241, 241, 241, 241, 241, 241, 241, 241, 241, 241, 241, 241, 241, 241, 241, 241, 241, 241, 241, 241, 241, 241, 241, 241, 2, 2, 2, 2, 2, 2, 2, 2, 2, 2, 2, 2, 2, 2, 2, 2, 2, 2, 2, 2, 2, 2, 2, 2, 2, 2, 2, 2, 2, 2, 19, 3, 3, 3, 3, 3, 3, 3, 3, 3, 3, 3, 3, 35, 3, 3, 52, 4, 4, 4, 68, 241, 241, 241, 241, 241, 241, 241, 241, 241, 241, 241]
theorem tabNs0_eq : (Rows.laid_unicode_utf8_first : DataW Unit) = .agg (tabNs0.map fun x => .lit (.int .u8 x)) := by kernel_rfl
theorem tabs_eq : tabs = [(1, tabNs1.flatMap fun x => [Value.int .u8 x.1, Value.int .u8 x.2]), (0, tabNs0.map fun x => Value.int .u8 x)] := by kernel_rfl
set_option maxRecDepth 100000 in
theorem laid_met (os : Os) (args : Array Value) : laidMetH Tryz.prog laidL ((World.laidAll Tryz.prog os laidL).forCall (fun _ _ => 0) ⟨#[], args, []⟩).memory := by
  rw [MakeChecks.laidMetH_plain _ _ _ (by kernel_rfl)]
  exact laidMet_laidAll _ (by kernel_rfl) (by kernel_rfl)
set_option maxRecDepth 100000 in
theorem tabs_laid {W : World} (h : laidMetH Tryz.prog laidL W) (ho : ∀ k ∈ openInts, k < W.heap.size ∧ ∃ m, W.cell? ⟨k, 0, none⟩ = some (.int .i64 m) := by exact fun k hk => nomatch hk) : Tabs (fun b => b < W.heap.size) W := by
  rw [MakeChecks.laidMetH_plain _ _ _ (by kernel_rfl)] at h
  obtain ⟨ps, h, _, _⟩ := h
  obtain ⟨g1, t1, cs1, f1, p1, q1, hg1, ht1, hv1, hd1, h, _⟩ := h
  obtain rfl := Option.some.inj (gTab1.symm.trans hg1)
  obtain rfl := Option.some.inj (tTab1.symm.trans ht1)
  rw [tabNs1_eq] at hd1
  have r1 := var_lt hg1 hv1 (trod_table2 Tryz.underlying134 Tryz.underlying133 rfl rfl rfl rfl (by kernel_rfl) (by kernel_rfl) (by kernel_rfl) (by kernel_rfl) hd1) (Option.isSome_iff_ne_none.1 (by kernel_rfl))
  obtain ⟨g0, t0, cs0, f0, p0, q0, hg0, ht0, hv0, hd0, h, _⟩ := h
  obtain rfl := Option.some.inj (gTab0.symm.trans hg0)
  obtain rfl := Option.some.inj (tTab0.symm.trans ht0)
  rw [tabNs0_eq] at hd0
  have r0 := var_lt hg0 hv0 (trod_table Tryz.underlying131 Tryz.underlying5 (by kernel_rfl) (by kernel_rfl) hd0) (Option.isSome_iff_ne_none.1 (by kernel_rfl))
  refine ⟨fun g => ?_, ho⟩
  rw [tabs_eq]
  unfold tabOf
  split
  · rename_i hg
    have hg2 := Nat.eq_of_beq_eq_true hg
    subst hg2
    exact tab_rel r1 (by kernel_rfl)
  · unfold tabOf
    split
    · rename_i hg
      have hg2 := Nat.eq_of_beq_eq_true hg
      subst hg2
      exact tab_rel r0 (by kernel_rfl)
    · exact .any _
end Go.Proofs.YthnkbagmaljjjaaGreatDoor.VM
