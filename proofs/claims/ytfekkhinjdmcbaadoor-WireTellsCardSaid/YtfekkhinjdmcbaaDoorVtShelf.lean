/- Words and rules that the proof uses. -/
import Derived.Test.YtfekkhinjdmcbaaDoorVtShort
import Derived.Shelf.Strings.Replace
import Derived.Shelf.Vars
import Derived.Handed
namespace Go.Proofs.YtfekkhinjdmcbaaDoor
open Go Go.Shelf
def ren155 : Ren where
 f := fun | 155 => 73 | 154 => 86 | 138 => 98 | 165 => 99 | 143 => 100 | 166 => 101 | 197 => 102 | 169 => 103 | 195 => 111 | 218 => 112 | 240 => 113 | 241 => 114 | 219 => 115 | 260 => 116 | 276 => 119 | 277 => 120 | 217 => 121 | 225 => 122 | 224 => 123 | 267 => 124 | 266 => 127 | 314 => 128 | n => n
 t := fun | 9 => 9 | 3 => 3 | 4 => 4 | 72 => 123 | 0 => 0 | 76 => 127 | 105 => 129 | 21 => 21 | 5 => 5 | 70 => 121 | 20 => 20 | 37 => 33 | 75 => 126 | 127 => 141 | 164 => 144 | 46 => 64 | 119 => 88 | 139 => 91 | 138 => 90 | 146 => 148 | 51 => 111 | 80 => 131 | n => n
 g := fun | 1 => 4 | 3 => 1 | 4 => 2 | n => n
theorem lays155 : Lays.n155 Tryd.prog ren155 where
 mixed := by kernel_rfl
 f138 := Tryd.func98.trans (congrArg some (by kernel_rfl))
 f143 := Tryd.func100.trans (congrArg some (by kernel_rfl))
 f154 := Tryd.func86.trans (congrArg some (by kernel_rfl))
 f155 := Tryd.func73.trans (congrArg some (by kernel_rfl))
 f165 := Tryd.func99.trans (congrArg some (by kernel_rfl))
 f166 := Tryd.func101.trans (congrArg some (by kernel_rfl))
 f169 := Tryd.func103.trans (congrArg some (by kernel_rfl))
 f195 := Tryd.func111.trans (congrArg some (by kernel_rfl))
 f197 := Tryd.func102.trans (congrArg some (by kernel_rfl))
 f217 := Tryd.func121.trans (congrArg some (by kernel_rfl))
 f218 := Tryd.func112.trans (congrArg some (by kernel_rfl))
 f219 := Tryd.func115.trans (congrArg some (by kernel_rfl))
 f224 := Tryd.func123.trans (congrArg some (by kernel_rfl))
 f225 := Tryd.func122.trans (congrArg some (by kernel_rfl))
 f240 := Tryd.func113.trans (congrArg some (by kernel_rfl))
 f241 := Tryd.func114.trans (congrArg some (by kernel_rfl))
 f260 := Tryd.func116.trans (congrArg some (by kernel_rfl))
 f266 := Tryd.func127.trans (congrArg some (by kernel_rfl))
 f267 := Tryd.func124.trans (congrArg some (by kernel_rfl))
 f276 := Tryd.func119.trans (congrArg some (by kernel_rfl))
 f277 := Tryd.func120.trans (congrArg some (by kernel_rfl))
 f314 := Tryd.func128.trans (congrArg some (by kernel_rfl))
 t0 := Tryd.underlying0
 a0 := Tryd.isAgg0
 z0 := Tryd.sizeOf0
 v0 := Tryd.zeroValue0
 t3 := Tryd.underlying3
 a3 := Tryd.isAgg3
 z3 := Tryd.sizeOf3
 v3 := Tryd.zeroValue3
 t4 := Tryd.underlying4
 a4 := Tryd.isAgg4
 z4 := Tryd.sizeOf4
 v4 := Tryd.zeroValue4
 t5 := Tryd.underlying5
 a5 := Tryd.isAgg5
 z5 := Tryd.sizeOf5
 v5 := Tryd.zeroValue5
 t9 := Tryd.underlying9
 a9 := Tryd.isAgg9
 z9 := Tryd.sizeOf9
 v9 := Tryd.zeroValue9
 t20 := Tryd.underlying20
 a20 := Tryd.isAgg20
 z20 := Tryd.sizeOf20
 v20 := Tryd.zeroValue20
 t21 := Tryd.underlying21
 a21 := Tryd.isAgg21
 z21 := Tryd.sizeOf21
 v21 := Tryd.zeroValue21
 t37 := Tryd.underlying33
 a37 := Tryd.isAgg33
 z37 := Tryd.sizeOf33
 v37 := Tryd.zeroValue33
 t46 := Tryd.underlying64
 a46 := Tryd.isAgg64
 z46 := Tryd.sizeOf64
 v46 := Tryd.zeroValue64
 t51 := Tryd.underlying111
 a51 := Tryd.isAgg111
 z51 := Tryd.sizeOf111
 v51 := Tryd.zeroValue111
 t70 := Tryd.underlying121
 a70 := Tryd.isAgg121
 z70 := Tryd.sizeOf121
 v70 := Tryd.zeroValue121
 t72 := Tryd.underlying123
 a72 := Tryd.isAgg123
 z72 := Tryd.sizeOf123
 v72 := Tryd.zeroValue123
 t75 := Tryd.underlying126
 a75 := Tryd.isAgg126
 z75 := Tryd.sizeOf126
 v75 := Tryd.zeroValue126
 t76 := Tryd.underlying127
 a76 := Tryd.isAgg127
 z76 := Tryd.sizeOf127
 v76 := Tryd.zeroValue127
 t105 := Tryd.underlying129
 a105 := Tryd.isAgg129
 z105 := Tryd.sizeOf129
 v105 := Tryd.zeroValue129
 t119 := Tryd.underlying88
 a119 := Tryd.isAgg88
 z119 := Tryd.sizeOf88
 t127 := Tryd.underlying141
 a127 := Tryd.isAgg141
 z127 := Tryd.sizeOf141
 v127 := Tryd.zeroValue141
 t138 := Tryd.underlying90
 a138 := Tryd.isAgg90
 z138 := Tryd.sizeOf90
 v138 := Tryd.zeroValue90
 t139 := Tryd.underlying91
 a139 := Tryd.isAgg91
 z139 := Tryd.sizeOf91
 v139 := Tryd.zeroValue91
 t146 := Tryd.underlying148
 a146 := Tryd.isAgg148
 z146 := Tryd.sizeOf148
 v146 := Tryd.zeroValue148
 t164 := Tryd.underlying144
 a164 := Tryd.isAgg144
 z164 := Tryd.sizeOf144
 v164 := Tryd.zeroValue144
 g1 := by kernel_rfl
 g3 := by kernel_rfl
 g4 := by kernel_rfl
theorem extra155 : Builder.Extra Tryd.prog ren155 where
 sizeBuilder := by kernel_rfl
 liesBuilder := by kernel_rfl
 t5 := lays155.t5
 a5 := lays155.a5
 z5 := lays155.z5
 v5 := lays155.v5
 infoByte := by kernel_rfl
 cellsByte := by kernel_rfl
 sizeByte := by kernel_rfl
 neB5 := by decide
namespace VM
open Go.RowKit
theorem ACp_below {P : Program} {f : FuncId} {args : List AV} {r : AV} (c : ∀ (Z : Nat → Prop) (w : World) (vs : Array Value), Good Z Heap.empty w → args.length = vs.size → (∀ (i : Nat) (a : AV) (v : Value), args[i]? = some a → vs[i]? = some v → Rel Z w a v) →
  Calls P f vs w fun e w' => ∃ v, e = .returned v ∧ (∀ Z w, Rel Z w r v) ∧ Below w.heap.size w w') : ACp P f args r := by
 intro Z w vs g hl hv
 refine (c Z w vs g hl hv).mono fun e w' ⟨v, he, hr, hb⟩ => ?_
 have x : Ext Heap.empty Z w Heap.empty Z w' := ⟨hb.os, hb.tape, hb.output, hb.size, fun b h _ => hb.block b h, fun b h => by unfold World.shape?; rw [hb.block b h], fun _ h => .inl h, fun _ h => h, fun _ h => .inl h⟩
 exact ⟨v, r, Heap.empty, Z, he, rfl, hr Z w', ⟨fun b h => Nat.lt_of_lt_of_le (g.zb b h) hb.size, fun b o h => absurd h (by intro h; cases h), fun b o h => absurd h (by intro h; cases h), g.tb.step g x⟩, x⟩
def g_strings_ReplaceAll (s old new : List UInt8) : Option (List UInt8) :=
 if s.length < 4294967281 ∧ 1 ≤ old.length ∧ s.length + Lib.count s old * new.length ≤ 140737488355328 then some (Lib.replaceAll s old new) else none
theorem g_strings_ReplaceAll_ac {s0 old1 new2 : List UInt8} {r : List UInt8} (H : g_strings_ReplaceAll s0 old1 new2 = some r) : ACp Tryd.prog 73 [AV.txt s0, AV.txt old1, AV.txt new2] (AV.txt r) := by
 unfold g_strings_ReplaceAll at H
 split at H
 case isFalse => cases H
 case isTrue hc =>
 cases H
 refine ACp_below fun Z w vs g hl hv => ?_
 obtain ⟨v0, v1, v2, rfl⟩ : ∃ v0 v1 v2, vs = #[v0, v1, v2] := by
  match vs, hl with
  | ⟨[v0, v1, v2]⟩, _ => exact ⟨v0, v1, v2, rfl⟩
 have e0 := (hv 0 _ v0 rfl rfl).sc_inv
 have e1 := (hv 1 _ v1 rfl rfl).sc_inv
 have e2 := (hv 2 _ v2 rfl rfl).sc_inv
 subst e0 e1 e2
 obtain ⟨_, m, hm⟩ := g.tb.2 4 (by decide)
 refine (Any.strings_ReplaceAll lays155 extra155 (strB s0) (strB old1) (strB new2) m w hc.1 hm hc.2.1 hc.2.2).mono fun e w' ⟨he, hb⟩ => ⟨_, he, fun Z w => ?_, hb⟩
 exact .sc _ rfl
theorem open_ints {W : World} (h : W.ShapedOpen Tryd.prog) : ∀ k ∈ openInts, k < W.heap.size ∧ ∃ m, W.cell? ⟨k, 0, none⟩ = some (.int .i64 m) := by
 intro k hk
 have hk : k = 4 := by simpa [openInts] using hk
 subst hk
 obtain ⟨m, hm⟩ := Go.Proofs.cell_of_shapedOpen_int (zero := #[.int .i64 0]) (t := 3) h (of_decide_eq_true (by kernel_rfl)) (by kernel_rfl) rfl (by kernel_rfl) (by kernel_rfl) Tryd.underlying3
 exact ⟨World.block_lt_of_cell? _ _ hm, m, hm⟩
open Go.ChangeShapes Go.WideShapes
theorem handedOpen {H : Type} {enc : TypeId × Value → H} {a : Assume} {C : Checked} {os : Os} {f : FuncId} {fn : Func} {s : ChangeSpec} {conds : List PathCond} {apart fresh handsOn again : Bool} {X : World → Array Value → Prop}
  (hX : ∀ (w w' : World) (args : Array Value), w.heap = w'.heap → X w args → X w' args)
  (own : ownKnob C.prog.godebug = none) (started : os.Started) (noInit : C.prog.inits.idxOf? f = none) (hfn : C.prog.funcs[f]? = some fn)
  (witness : ∃ (w : World) (tape : Tape) (i : Input), w.os = os ∧ (w.forCall tape i).Shaped C.prog ∧ i.vars = [] ∧ Input.okWide C.prog (w.forCall tape i) .any w.heap.size f i ∧
   ((s.pre enc C.prog fn conds apart (w.forCall tape i).memory i.args ∧ X (w.forCall tape i).memory i.args) ∧ sizedMet enc C.prog fn (OpenSpec.ofChange s) apart (w.forCall tape i).memory i.args) ∧ a.holds C.prog (lone (Frame.enter C.prog f i.args .normal) [] (w.forCall tape i)))
  (contract : ∀ (W : World) (base : Nat) (args : Array Value) (ds gs : List (DataW H)) (before : List MemPlace),
   (∀ (j : Nat) t v, fn.params[j]? = some t → args[j]? = some v → Value.okWide C.prog W .any base t v) →
   DataW.Whole enc C.prog fn.params.toList s.vars apart W args.toList ds gs before →
   conds.all (PathCond.test C.prog ⟨fn.params.toList, ds, s.plain.varTypes C.prog, gs⟩) = true →
   (DataW.weightsEach C.prog (fn.params.toList ++ s.plain.varTypes C.prog) (ds ++ gs)).all (· ≤ reachBytes) = true → X W args → W.ShapedOpen C.prog →
   Calls C.prog f args W fun e W' => ∃ v, e = .returned v ∧ s.post enc C.prog fn apart fresh handsOn again W args v W') :
  ReturnsInHanded a C os f .any (fun w args => (s.pre enc C.prog fn conds apart w args ∧ X w args) ∧ sizedMet enc C.prog fn (OpenSpec.ofChange s) apart w args) (s.post enc C.prog fn apart fresh handsOn again) := by
 refine returnsInHanded_of_calls own started noInit witness ?_
 intro w tape i _ hS _ hok hpre _
 obtain ⟨_, _, _, fn', hfn', _, _, _, _, hval⟩ := hok
 obtain rfl : fn' = fn := Option.some.inj (hfn'.symm.trans hfn)
 obtain ⟨⟨⟨ds, gs, before, hw, hc⟩, hx⟩, hz⟩ := hpre
 refine (contract _ w.heap.size i.args ds gs before hval (hw.of_heap (by rfl)) hc (hz.weights hw) (hX _ _ _ (by rfl) hx) hS).mono fun e W' ⟨v, he, hp⟩ => ?_
 subst he
 exact ChangeSpec.post_blind hp
end VM
end Go.Proofs.YtfekkhinjdmcbaaDoor
