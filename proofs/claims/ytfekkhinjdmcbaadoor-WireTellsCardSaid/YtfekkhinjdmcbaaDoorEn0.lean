/- Functions of the program, as they answer, and that their code comes to these answers. -/
import Derived.Test.YtfekkhinjdmcbaaDoorVtTabs
import Derived.Test.YtfekkhinjdmcbaaDoorVtFloat
import Derived.Test.YtfekkhinjdmcbaaDoorVtShelf
namespace Go.Proofs.YtfekkhinjdmcbaaDoor.VM
open Go Go.RowKit

structure Gutf8_acceptRange where
  lo_ : UInt8
  hi_ : UInt8
deriving DecidableEq, Inhabited
def Gutf8_acceptRange.zero : Gutf8_acceptRange := ⟨(0 : UInt8), (0 : UInt8)⟩
def Gutf8_acceptRange.cs (x : Gutf8_acceptRange) : List AV := ([(AV.b8 x.lo_)]) ++ ([(AV.b8 x.hi_)])
theorem Gutf8_acceptRange.len (x : Gutf8_acceptRange) : (Gutf8_acceptRange.cs x).length = 2 := by
  simp only [Gutf8_acceptRange.cs, List.length_append]
  rw [show ([(AV.b8 x.lo_)]).length = 1 from (show ([(AV.b8 x.lo_)]).length = 1 from rfl), show ([(AV.b8 x.hi_)]).length = 1 from (show ([(AV.b8 x.hi_)]).length = 1 from rfl)]
theorem Gutf8_acceptRange.sub0 (x : Gutf8_acceptRange) : Sub (Gutf8_acceptRange.cs x) 0 ([(AV.b8 x.lo_)]) := Sub.head _ _
abbrev Gutf8_acceptRange.w0 (x : Gutf8_acceptRange) (y : UInt8) : Gutf8_acceptRange := { x with lo_ := y }
theorem Gutf8_acceptRange.upd0 (x : Gutf8_acceptRange) (y : UInt8) : Upd (Gutf8_acceptRange.cs x) 0 ([(AV.b8 y)]) (Gutf8_acceptRange.cs { x with lo_ := y }) := Upd.head (show ([(AV.b8 y)]).length = ([(AV.b8 x.lo_)]).length from rfl)
theorem Gutf8_acceptRange.sub1 (x : Gutf8_acceptRange) : Sub (Gutf8_acceptRange.cs x) 1 ([(AV.b8 x.hi_)]) := Sub.skip (k := 1) (show ([(AV.b8 x.lo_)]).length = 1 from rfl) (Sub.refl _)
abbrev Gutf8_acceptRange.w1 (x : Gutf8_acceptRange) (y : UInt8) : Gutf8_acceptRange := { x with hi_ := y }
theorem Gutf8_acceptRange.upd1 (x : Gutf8_acceptRange) (y : UInt8) : Upd (Gutf8_acceptRange.cs x) 1 ([(AV.b8 y)]) (Gutf8_acceptRange.cs { x with hi_ := y }) := Upd.skip (k := 1) (show ([(AV.b8 x.lo_)]).length = 1 from rfl) (Upd.refl (show ([(AV.b8 y)]).length = ([(AV.b8 x.hi_)]).length from rfl))
theorem Gutf8_acceptRange.nl (x : Gutf8_acceptRange) : (Gutf8_acceptRange.cs x).all noLst1 = true := nlA rfl (rfl)
structure GValue where
  Kind : Int
  Int_ : Int
  Bits : UInt64
  Text : List UInt8
deriving DecidableEq, Inhabited
def GValue.zero : GValue := ⟨(0 : Int), (0 : Int), (0 : UInt64), []⟩
def GValue.cs (x : GValue) : List AV := ([(AV.int x.Kind)]) ++ (([(AV.int x.Int_)]) ++ (([(AV.u64 x.Bits)]) ++ ([(AV.txt x.Text)])))
theorem GValue.len (x : GValue) : (GValue.cs x).length = 4 := by
  simp only [GValue.cs, List.length_append]
  rw [show ([(AV.int x.Kind)]).length = 1 from (show ([(AV.int x.Kind)]).length = 1 from rfl), show ([(AV.int x.Int_)]).length = 1 from (show ([(AV.int x.Int_)]).length = 1 from rfl), show ([(AV.u64 x.Bits)]).length = 1 from (show ([(AV.u64 x.Bits)]).length = 1 from rfl), show ([(AV.txt x.Text)]).length = 1 from (show ([(AV.txt x.Text)]).length = 1 from rfl)]
theorem GValue.sub0 (x : GValue) : Sub (GValue.cs x) 0 ([(AV.int x.Kind)]) := Sub.head _ _
abbrev GValue.w0 (x : GValue) (y : Int) : GValue := { x with Kind := y }
theorem GValue.upd0 (x : GValue) (y : Int) : Upd (GValue.cs x) 0 ([(AV.int y)]) (GValue.cs { x with Kind := y }) := Upd.head (show ([(AV.int y)]).length = ([(AV.int x.Kind)]).length from rfl)
theorem GValue.sub1 (x : GValue) : Sub (GValue.cs x) 1 ([(AV.int x.Int_)]) := Sub.skip (k := 1) (show ([(AV.int x.Kind)]).length = 1 from rfl) (Sub.head _ _)
abbrev GValue.w1 (x : GValue) (y : Int) : GValue := { x with Int_ := y }
theorem GValue.upd1 (x : GValue) (y : Int) : Upd (GValue.cs x) 1 ([(AV.int y)]) (GValue.cs { x with Int_ := y }) := Upd.skip (k := 1) (show ([(AV.int x.Kind)]).length = 1 from rfl) (Upd.head (show ([(AV.int y)]).length = ([(AV.int x.Int_)]).length from rfl))
theorem GValue.sub2 (x : GValue) : Sub (GValue.cs x) 2 ([(AV.u64 x.Bits)]) := Sub.skip (k := 1) (show ([(AV.int x.Kind)]).length = 1 from rfl) (Sub.skip (k := 1) (show ([(AV.int x.Int_)]).length = 1 from rfl) (Sub.head _ _))
abbrev GValue.w2 (x : GValue) (y : UInt64) : GValue := { x with Bits := y }
theorem GValue.upd2 (x : GValue) (y : UInt64) : Upd (GValue.cs x) 2 ([(AV.u64 y)]) (GValue.cs { x with Bits := y }) := Upd.skip (k := 1) (show ([(AV.int x.Kind)]).length = 1 from rfl) (Upd.skip (k := 1) (show ([(AV.int x.Int_)]).length = 1 from rfl) (Upd.head (show ([(AV.u64 y)]).length = ([(AV.u64 x.Bits)]).length from rfl)))
theorem GValue.sub3 (x : GValue) : Sub (GValue.cs x) 3 ([(AV.txt x.Text)]) := Sub.skip (k := 1) (show ([(AV.int x.Kind)]).length = 1 from rfl) (Sub.skip (k := 1) (show ([(AV.int x.Int_)]).length = 1 from rfl) (Sub.skip (k := 1) (show ([(AV.u64 x.Bits)]).length = 1 from rfl) (Sub.refl _)))
abbrev GValue.w3 (x : GValue) (y : List UInt8) : GValue := { x with Text := y }
theorem GValue.upd3 (x : GValue) (y : List UInt8) : Upd (GValue.cs x) 3 ([(AV.txt y)]) (GValue.cs { x with Text := y }) := Upd.skip (k := 1) (show ([(AV.int x.Kind)]).length = 1 from rfl) (Upd.skip (k := 1) (show ([(AV.int x.Int_)]).length = 1 from rfl) (Upd.skip (k := 1) (show ([(AV.u64 x.Bits)]).length = 1 from rfl) (Upd.refl (show ([(AV.txt y)]).length = ([(AV.txt x.Text)]).length from rfl))))
theorem GValue.nl (x : GValue) : (GValue.cs x).all noLst1 = true := nlA rfl (nlA rfl (nlA rfl (rfl)))
theorem in_5 : Info Tryd.prog 5 1 1 (.int .u8 0) := by unfold Info; kernel_rfl
theorem one_5 : (.int .u8 0 : Value).cells.all (·.oneCell') = true := by kernel_rfl
theorem zc_5 : ((.int .u8 0 : Value).cells.toList.map zcell) = [(AV.b8 (0 : UInt8))] := by rfl
theorem in_90 : Info Tryd.prog 90 2 2 (.agg #[.int .u8 0, .int .u8 0]) := by unfold Info; kernel_rfl
theorem one_90 : (.agg #[.int .u8 0, .int .u8 0] : Value).cells.all (·.oneCell') = true := by kernel_rfl
theorem zc_90 : ((.agg #[.int .u8 0, .int .u8 0] : Value).cells.toList.map zcell) = Gutf8_acceptRange.cs Gutf8_acceptRange.zero := by rfl
theorem pl_90 : placesOf Tryd.prog 90 = some [(0, 1), (1, 1)] := by kernel_rfl
theorem in_3 : Info Tryd.prog 3 1 8 (.int .i64 0) := by unfold Info; kernel_rfl
theorem one_3 : (.int .i64 0 : Value).cells.all (·.oneCell') = true := by kernel_rfl
theorem zc_3 : ((.int .i64 0 : Value).cells.toList.map zcell) = [(AV.int (0 : Int))] := by rfl
theorem in_9 : Info Tryd.prog 9 1 16 (.string ⟨#[]⟩) := by unfold Info; kernel_rfl
theorem one_9 : (.string ⟨#[]⟩ : Value).cells.all (·.oneCell') = true := by kernel_rfl
theorem zc_9 : ((.string ⟨#[]⟩ : Value).cells.toList.map zcell) = [(AV.txt [])] := by rfl
theorem in_22 : Info Tryd.prog 22 1 8 (.int .u64 0) := by unfold Info; kernel_rfl
theorem one_22 : (.int .u64 0 : Value).cells.all (·.oneCell') = true := by kernel_rfl
theorem zc_22 : ((.int .u64 0 : Value).cells.toList.map zcell) = [(AV.u64 (0 : UInt64))] := by rfl
def tab2 : List Gutf8_acceptRange := [⟨128, 191⟩, ⟨160, 191⟩, ⟨128, 159⟩, ⟨144, 191⟩, ⟨128, 143⟩, ⟨0, 0⟩, ⟨0, 0⟩, ⟨0, 0⟩, ⟨0, 0⟩, ⟨0, 0⟩, ⟨0, 0⟩, ⟨0, 0⟩, ⟨0, 0⟩, ⟨0, 0⟩, ⟨0, 0⟩, ⟨0, 0⟩]
theorem tab2_len : tab2.length = 16 := rfl
theorem tab2_rd {s : TS} : tev s (.global 2) = .c (.p (.rptr (tab2.flatMap Gutf8_acceptRange.cs) 0)) := by
  show TV.c (.p (tabOf tabs 2)) = _
  rfl


/-! math.Signbit -/
noncomputable def g_math_Signbit (x0 : F64) : Option (Bool) :=
  some (decide (w64 (x0.toNat : Int) < (0 : Int)))
set_option maxHeartbeats 4000000 in
set_option maxRecDepth 100000 in
theorem g_math_Signbit_ac {x0 : F64} {r : Bool} (H : g_math_Signbit x0 = some r) : ACp Tryd.prog 39 [(AV.f64 x0)] (AV.bool r) := by
 refine ACp_of (AC2_of_body (vs := [.b r]) Tryd.func39 Y Y (Nat.le_of_ble_eq_true Y) Y ?_) (fun _ => .same _)
 unfold g_math_Signbit at H
 refine as2 [(0, .p (AV.f64 x0))] [] Y Y Y ?_
 refine sg [0] Y ?_
 refine rp Y Y (p_asg Y Y) ?_
 refine rz [(0, .p (AV.f64 x0))] [] Y Y Y ?_
 refine sg [0, 1, 2, 3, 4] Y ?_
 refine rp Y Y (p_move Y Y) ?_
 refine rp Y Y (p_tobits (a := x0) Y Y Y Tryd.func65 Y Y (by kernel_rfl) (by kernel_rfl) Y) ?_
 refine rp Y Y (p_u64_i (a := x0) Y Tryd.underlying22 Tryd.underlying2 Y) ?_
 refine rp Y Y (p_bin Y Y Y Y) ?_
 refine rp Y Y (p_asg Y Y) ?_
 refine rz [(2, .b (decide (w64 (x0.toNat : Int) < (0 : Int))))] [] Y Y Y ?_
 refine AW2_ret ?_
 have hz := some_elim H
 subst hz
 exact ⟨⟨res_tmp (.same _), trivial⟩, trivial⟩

/-! utf8.word[string] -/
def g_utf8_word_string_r1 : List (List (Nat × Option Nat)) := [[(0, none)], [(3, some 0)], [(4, some 1)], [(0, none)], [(6, some 3)], [(7, some 4)], [(8, some 5)], [(5, some 2), (9, some 6)], [(0, none)], [(11, some 8)], [(12, some 9)], [(13, some 10)], [(10, some 7), (14, some 11)], [(0, none)], [(16, some 13)], [(17, some 14)], [(18, some 15)]]
def g_utf8_word_string_r1c : List (List Nat) := [[], [0], [0, 1], [], [3], [3, 4], [3, 4, 5], [0, 1, 2, 3, 4, 5, 6], [], [8], [8, 9], [8, 9, 10], [0, 1, 2, 3, 4, 5, 6, 7, 8, 9, 10, 11], [], [13], [13, 14], [13, 14, 15], [0, 1, 2, 3, 4, 5, 6, 7, 8, 9, 10, 11, 12, 13, 14, 15, 16], [0, 1, 2, 3, 4, 5, 6, 7, 8, 9, 10, 11, 12, 13, 14, 15, 16, 17]]
def g_utf8_word_string_r2 : List (List (Nat × Option Nat)) := [[(0, none)], [(21, some 0)], [(22, some 1)], [(0, none)], [(24, some 3)], [(25, some 4)], [(26, some 5)], [(23, some 2), (27, some 6)], [(0, none)], [(29, some 8)], [(30, some 9)], [(31, some 10)], [(28, some 7), (32, some 11)], [(0, none)], [(34, some 13)], [(35, some 14)], [(36, some 15)], [(33, some 12), (37, some 16)], [(0, none)], [(39, some 18)], [(40, some 19)], [(41, some 20)], [(38, some 17), (42, some 21)], [(0, none)], [(44, some 23)], [(45, some 24)], [(46, some 25)], [(43, some 22), (47, some 26)], [(0, none)], [(49, some 28)], [(50, some 29)], [(51, some 30)], [(48, some 27), (52, some 31)], [(0, none)], [(54, some 33)], [(55, some 34)], [(56, some 35)]]
def g_utf8_word_string_r2c : List (List Nat) := [[], [0], [0, 1], [], [3], [3, 4], [3, 4, 5], [0, 1, 2, 3, 4, 5, 6], [], [8], [8, 9], [8, 9, 10], [0, 1, 2, 3, 4, 5, 6, 7, 8, 9, 10, 11], [], [13], [13, 14], [13, 14, 15], [0, 1, 2, 3, 4, 5, 6, 7, 8, 9, 10, 11, 12, 13, 14, 15, 16], [], [18], [18, 19], [18, 19, 20], [0, 1, 2, 3, 4, 5, 6, 7, 8, 9, 10, 11, 12, 13, 14, 15, 16, 17, 18, 19, 20, 21], [], [23], [23, 24], [23, 24, 25], [0, 1, 2, 3, 4, 5, 6, 7, 8, 9, 10, 11, 12, 13, 14, 15, 16, 17, 18, 19, 20, 21, 22, 23, 24, 25, 26], [], [28], [28, 29], [28, 29, 30], [0, 1, 2, 3, 4, 5, 6, 7, 8, 9, 10, 11, 12, 13, 14, 15, 16, 17, 18, 19, 20, 21, 22, 23, 24, 25, 26, 27, 28, 29, 30, 31], [], [33], [33, 34], [33, 34, 35], [0, 1, 2, 3, 4, 5, 6, 7, 8, 9, 10, 11, 12, 13, 14, 15, 16, 17, 18, 19, 20, 21, 22, 23, 24, 25, 26, 27, 28, 29, 30, 31, 32, 33, 34, 35, 36], [0, 1, 2, 3, 4, 5, 6, 7, 8, 9, 10, 11, 12, 13, 14, 15, 16, 17, 18, 19, 20, 21, 22, 23, 24, 25, 26, 27, 28, 29, 30, 31, 32, 33, 34, 35, 36, 37]]
noncomputable def g_utf8_word_string (s0 : List UInt8) : Option (UInt64) :=
  (if false = true then if 0 < s0.length then if 1 < s0.length then if 2 < s0.length then if 3 < s0.length then letO (((((lrd s0 0).toUInt64) ||| (shl_u64 ((lrd s0 1).toUInt64) 8)) ||| (shl_u64 ((lrd s0 2).toUInt64) 16)) ||| (shl_u64 ((lrd s0 3).toUInt64) 24)) fun t2'1 => some t2'1 else none else none else none else none else if 0 < s0.length then if 1 < s0.length then if 2 < s0.length then if 3 < s0.length then if 4 < s0.length then if 5 < s0.length then if 6 < s0.length then if 7 < s0.length then letO (((((((((lrd s0 0).toUInt64) ||| (shl_u64 ((lrd s0 1).toUInt64) 8)) ||| (shl_u64 ((lrd s0 2).toUInt64) 16)) ||| (shl_u64 ((lrd s0 3).toUInt64) 24)) ||| (shl_u64 ((lrd s0 4).toUInt64) 32)) ||| (shl_u64 ((lrd s0 5).toUInt64) 40)) ||| (shl_u64 ((lrd s0 6).toUInt64) 48)) ||| (shl_u64 ((lrd s0 7).toUInt64) 56)) fun t2'2 => some t2'2 else none else none else none else none else none else none else none else none)
set_option maxHeartbeats 4000000 in
set_option maxRecDepth 100000 in
theorem g_utf8_word_string_ac {s0 : List UInt8} {r : UInt64} (H : g_utf8_word_string s0 = some r) : ACp Tryd.prog 66 [(AV.txt s0)] (AV.u64 r) := by
 refine ACp_of (AC2_of_body (vs := [.p (AV.u64 r)]) Tryd.func66 Y Y (Nat.le_of_ble_eq_true Y) Y ?_) (fun _ => .same _)
 unfold g_utf8_word_string at H
 refine as2 [(0, .t s0)] [] Y Y Y ?_
 refine sg [0] Y ?_
 refine rp Y Y (p_asg Y Y) ?_
 refine rz [(0, .t s0)] [] Y Y Y ?_
 refine AW2_seq ?_
 refine AW2_cond Y (fun h1 => ?_) (fun h1 => ?_)
 ·replace H := ite_then h1 H
  refine AW2_seq ?_
  refine chkK H fun h2 H => ?_
  refine chkK H fun h3 H => ?_
  refine chkK H fun h4 H => ?_
  refine chkK H fun h5 H => ?_
  refine AW2_ghoQ ?_
  refine AW2_draw 17 [17, 18] (fun k => ([.t s0, .p (AV.b8 (lrd s0 0)), .p (AV.u64 ((lrd s0 0).toUInt64)), .t s0, .p (AV.b8 (lrd s0 1)), .p (AV.u64 ((lrd s0 1).toUInt64)), .p (AV.u64 (shl_u64 ((lrd s0 1).toUInt64) 8)), .p (AV.u64 (((lrd s0 0).toUInt64) ||| (shl_u64 ((lrd s0 1).toUInt64) 8))), .t s0, .p (AV.b8 (lrd s0 2)), .p (AV.u64 ((lrd s0 2).toUInt64)), .p (AV.u64 (shl_u64 ((lrd s0 2).toUInt64) 16)), .p (AV.u64 ((((lrd s0 0).toUInt64) ||| (shl_u64 ((lrd s0 1).toUInt64) 8)) ||| (shl_u64 ((lrd s0 2).toUInt64) 16))), .t s0, .p (AV.b8 (lrd s0 3)), .p (AV.u64 ((lrd s0 3).toUInt64)), .p (AV.u64 (shl_u64 ((lrd s0 3).toUInt64) 24))] : List TV).getD k TV.any) (fun k => g_utf8_word_string_r1.getD k []) [(15, some 12), (19, some 16)] [] (fun k => g_utf8_word_string_r1c.getD k []) mixed (by kernel_rfl) Y Y (a_op (g_x Y (x_p Y (p_move Y Y) Y)) (a_op (g_x Y (x_p Y (p_ixt Y Tryd.underlying9 Y Y Y (lrd_get h2)) Y)) (a_op (g_x Y (x_p Y (p_u8_u64 (a := (lrd s0 0)) Y Tryd.underlying5 Tryd.underlying12 Y) Y)) (a_op (g_x Y (x_p Y (p_move Y Y) Y)) (a_op (g_x Y (x_p Y (p_ixt Y Tryd.underlying9 Y Y Y (lrd_get h3)) Y)) (a_op (g_x Y (x_p Y (p_u8_u64 (a := (lrd s0 1)) Y Tryd.underlying5 Tryd.underlying12 Y) Y)) (a_op (g_x Y (x_p Y (p_u64shl (n := 8) Y Y Y Y) Y)) (a_op (g_x Y (x_p Y (p_u64or (a := (lrd s0 0).toUInt64) (b := shl_u64 ((lrd s0 1).toUInt64) 8) Y Y Y) Y)) (a_op (g_x Y (x_p Y (p_move Y Y) Y)) (a_op (g_x Y (x_p Y (p_ixt Y Tryd.underlying9 Y Y Y (lrd_get h4)) Y)) (a_op (g_x Y (x_p Y (p_u8_u64 (a := (lrd s0 2)) Y Tryd.underlying5 Tryd.underlying12 Y) Y)) (a_op (g_x Y (x_p Y (p_u64shl (n := 16) Y Y Y Y) Y)) (a_op (g_x Y (x_p Y (p_u64or (a := ((lrd s0 0).toUInt64) ||| (shl_u64 ((lrd s0 1).toUInt64) 8)) (b := shl_u64 ((lrd s0 2).toUInt64) 16) Y Y Y) Y)) (a_op (g_x Y (x_p Y (p_move Y Y) Y)) (a_op (g_x Y (x_p Y (p_ixt Y Tryd.underlying9 Y Y Y (lrd_get h5)) Y)) (a_op (g_x Y (x_p Y (p_u8_u64 (a := (lrd s0 3)) Y Tryd.underlying5 Tryd.underlying12 Y) Y)) (a_op (g_x Y (x_p Y (p_u64shl (n := 24) Y Y Y Y) Y)) (a_nil)))))))))))))))))) ?_
  refine t_op Y Y (PureD.opD (p_u64or (a := (((lrd s0 0).toUInt64) ||| (shl_u64 ((lrd s0 1).toUInt64) 8)) ||| (shl_u64 ((lrd s0 2).toUInt64) 16)) (b := shl_u64 ((lrd s0 3).toUInt64) 24) Y Y Y)) ?_
  refine t_op Y Y (PureD.opD (p_asg Y Y)) ?_
  refine t_gho (Gho_st (L := [(2, .p (AV.u64 (((((lrd s0 0).toUInt64) ||| (shl_u64 ((lrd s0 1).toUInt64) 8)) ||| (shl_u64 ((lrd s0 2).toUInt64) 16)) ||| (shl_u64 ((lrd s0 3).toUInt64) 24))))]) (H := []) (N := 59) Y ⟨TLes.same _, trivial⟩ trivial) ?_
  refine gen1 (fun t2'1 => (⟨[(2, .p (AV.u64 t2'1))], [], 59⟩ : TS)) H ?_
  intro t2'1 H
  refine AW2_ret ?_
  have hz := some_elim H
  subst hz
  exact ⟨⟨res_tmp (.same _), trivial⟩, trivial⟩
 ·replace H := ite_else (ne_true h1) H
  refine AW2_skip ?_
  refine AW2_seq ?_
  refine chkK H fun h6 H => ?_
  refine chkK H fun h7 H => ?_
  refine chkK H fun h8 H => ?_
  refine chkK H fun h9 H => ?_
  refine chkK H fun h10 H => ?_
  refine chkK H fun h11 H => ?_
  refine chkK H fun h12 H => ?_
  refine chkK H fun h13 H => ?_
  refine AW2_ghoQ ?_
  refine AW2_draw 37 [37, 38] (fun k => ([.t s0, .p (AV.b8 (lrd s0 0)), .p (AV.u64 ((lrd s0 0).toUInt64)), .t s0, .p (AV.b8 (lrd s0 1)), .p (AV.u64 ((lrd s0 1).toUInt64)), .p (AV.u64 (shl_u64 ((lrd s0 1).toUInt64) 8)), .p (AV.u64 (((lrd s0 0).toUInt64) ||| (shl_u64 ((lrd s0 1).toUInt64) 8))), .t s0, .p (AV.b8 (lrd s0 2)), .p (AV.u64 ((lrd s0 2).toUInt64)), .p (AV.u64 (shl_u64 ((lrd s0 2).toUInt64) 16)), .p (AV.u64 ((((lrd s0 0).toUInt64) ||| (shl_u64 ((lrd s0 1).toUInt64) 8)) ||| (shl_u64 ((lrd s0 2).toUInt64) 16))), .t s0, .p (AV.b8 (lrd s0 3)), .p (AV.u64 ((lrd s0 3).toUInt64)), .p (AV.u64 (shl_u64 ((lrd s0 3).toUInt64) 24)), .p (AV.u64 (((((lrd s0 0).toUInt64) ||| (shl_u64 ((lrd s0 1).toUInt64) 8)) ||| (shl_u64 ((lrd s0 2).toUInt64) 16)) ||| (shl_u64 ((lrd s0 3).toUInt64) 24))), .t s0, .p (AV.b8 (lrd s0 4)), .p (AV.u64 ((lrd s0 4).toUInt64)), .p (AV.u64 (shl_u64 ((lrd s0 4).toUInt64) 32)), .p (AV.u64 ((((((lrd s0 0).toUInt64) ||| (shl_u64 ((lrd s0 1).toUInt64) 8)) ||| (shl_u64 ((lrd s0 2).toUInt64) 16)) ||| (shl_u64 ((lrd s0 3).toUInt64) 24)) ||| (shl_u64 ((lrd s0 4).toUInt64) 32))), .t s0, .p (AV.b8 (lrd s0 5)), .p (AV.u64 ((lrd s0 5).toUInt64)), .p (AV.u64 (shl_u64 ((lrd s0 5).toUInt64) 40)), .p (AV.u64 (((((((lrd s0 0).toUInt64) ||| (shl_u64 ((lrd s0 1).toUInt64) 8)) ||| (shl_u64 ((lrd s0 2).toUInt64) 16)) ||| (shl_u64 ((lrd s0 3).toUInt64) 24)) ||| (shl_u64 ((lrd s0 4).toUInt64) 32)) ||| (shl_u64 ((lrd s0 5).toUInt64) 40))), .t s0, .p (AV.b8 (lrd s0 6)), .p (AV.u64 ((lrd s0 6).toUInt64)), .p (AV.u64 (shl_u64 ((lrd s0 6).toUInt64) 48)), .p (AV.u64 ((((((((lrd s0 0).toUInt64) ||| (shl_u64 ((lrd s0 1).toUInt64) 8)) ||| (shl_u64 ((lrd s0 2).toUInt64) 16)) ||| (shl_u64 ((lrd s0 3).toUInt64) 24)) ||| (shl_u64 ((lrd s0 4).toUInt64) 32)) ||| (shl_u64 ((lrd s0 5).toUInt64) 40)) ||| (shl_u64 ((lrd s0 6).toUInt64) 48))), .t s0, .p (AV.b8 (lrd s0 7)), .p (AV.u64 ((lrd s0 7).toUInt64)), .p (AV.u64 (shl_u64 ((lrd s0 7).toUInt64) 56))] : List TV).getD k TV.any) (fun k => g_utf8_word_string_r2.getD k []) [(53, some 32), (57, some 36)] [] (fun k => g_utf8_word_string_r2c.getD k []) mixed (by kernel_rfl) Y Y (a_op (g_x Y (x_p Y (p_move Y Y) Y)) (a_op (g_x Y (x_p Y (p_ixt Y Tryd.underlying9 Y Y Y (lrd_get h6)) Y)) (a_op (g_x Y (x_p Y (p_u8_u64 (a := (lrd s0 0)) Y Tryd.underlying5 Tryd.underlying22 Y) Y)) (a_op (g_x Y (x_p Y (p_move Y Y) Y)) (a_op (g_x Y (x_p Y (p_ixt Y Tryd.underlying9 Y Y Y (lrd_get h7)) Y)) (a_op (g_x Y (x_p Y (p_u8_u64 (a := (lrd s0 1)) Y Tryd.underlying5 Tryd.underlying22 Y) Y)) (a_op (g_x Y (x_p Y (p_u64shl (n := 8) Y Y Y Y) Y)) (a_op (g_x Y (x_p Y (p_u64or (a := (lrd s0 0).toUInt64) (b := shl_u64 ((lrd s0 1).toUInt64) 8) Y Y Y) Y)) (a_op (g_x Y (x_p Y (p_move Y Y) Y)) (a_op (g_x Y (x_p Y (p_ixt Y Tryd.underlying9 Y Y Y (lrd_get h8)) Y)) (a_op (g_x Y (x_p Y (p_u8_u64 (a := (lrd s0 2)) Y Tryd.underlying5 Tryd.underlying22 Y) Y)) (a_op (g_x Y (x_p Y (p_u64shl (n := 16) Y Y Y Y) Y)) (a_op (g_x Y (x_p Y (p_u64or (a := ((lrd s0 0).toUInt64) ||| (shl_u64 ((lrd s0 1).toUInt64) 8)) (b := shl_u64 ((lrd s0 2).toUInt64) 16) Y Y Y) Y)) (a_op (g_x Y (x_p Y (p_move Y Y) Y)) (a_op (g_x Y (x_p Y (p_ixt Y Tryd.underlying9 Y Y Y (lrd_get h9)) Y)) (a_op (g_x Y (x_p Y (p_u8_u64 (a := (lrd s0 3)) Y Tryd.underlying5 Tryd.underlying22 Y) Y)) (a_op (g_x Y (x_p Y (p_u64shl (n := 24) Y Y Y Y) Y)) (a_op (g_x Y (x_p Y (p_u64or (a := (((lrd s0 0).toUInt64) ||| (shl_u64 ((lrd s0 1).toUInt64) 8)) ||| (shl_u64 ((lrd s0 2).toUInt64) 16)) (b := shl_u64 ((lrd s0 3).toUInt64) 24) Y Y Y) Y)) (a_op (g_x Y (x_p Y (p_move Y Y) Y)) (a_op (g_x Y (x_p Y (p_ixt Y Tryd.underlying9 Y Y Y (lrd_get h10)) Y)) (a_op (g_x Y (x_p Y (p_u8_u64 (a := (lrd s0 4)) Y Tryd.underlying5 Tryd.underlying22 Y) Y)) (a_op (g_x Y (x_p Y (p_u64shl (n := 32) Y Y Y Y) Y)) (a_op (g_x Y (x_p Y (p_u64or (a := ((((lrd s0 0).toUInt64) ||| (shl_u64 ((lrd s0 1).toUInt64) 8)) ||| (shl_u64 ((lrd s0 2).toUInt64) 16)) ||| (shl_u64 ((lrd s0 3).toUInt64) 24)) (b := shl_u64 ((lrd s0 4).toUInt64) 32) Y Y Y) Y)) (a_op (g_x Y (x_p Y (p_move Y Y) Y)) (a_op (g_x Y (x_p Y (p_ixt Y Tryd.underlying9 Y Y Y (lrd_get h11)) Y)) (a_op (g_x Y (x_p Y (p_u8_u64 (a := (lrd s0 5)) Y Tryd.underlying5 Tryd.underlying22 Y) Y)) (a_op (g_x Y (x_p Y (p_u64shl (n := 40) Y Y Y Y) Y)) (a_op (g_x Y (x_p Y (p_u64or (a := (((((lrd s0 0).toUInt64) ||| (shl_u64 ((lrd s0 1).toUInt64) 8)) ||| (shl_u64 ((lrd s0 2).toUInt64) 16)) ||| (shl_u64 ((lrd s0 3).toUInt64) 24)) ||| (shl_u64 ((lrd s0 4).toUInt64) 32)) (b := shl_u64 ((lrd s0 5).toUInt64) 40) Y Y Y) Y)) (a_op (g_x Y (x_p Y (p_move Y Y) Y)) (a_op (g_x Y (x_p Y (p_ixt Y Tryd.underlying9 Y Y Y (lrd_get h12)) Y)) (a_op (g_x Y (x_p Y (p_u8_u64 (a := (lrd s0 6)) Y Tryd.underlying5 Tryd.underlying22 Y) Y)) (a_op (g_x Y (x_p Y (p_u64shl (n := 48) Y Y Y Y) Y)) (a_op (g_x Y (x_p Y (p_u64or (a := ((((((lrd s0 0).toUInt64) ||| (shl_u64 ((lrd s0 1).toUInt64) 8)) ||| (shl_u64 ((lrd s0 2).toUInt64) 16)) ||| (shl_u64 ((lrd s0 3).toUInt64) 24)) ||| (shl_u64 ((lrd s0 4).toUInt64) 32)) ||| (shl_u64 ((lrd s0 5).toUInt64) 40)) (b := shl_u64 ((lrd s0 6).toUInt64) 48) Y Y Y) Y)) (a_op (g_x Y (x_p Y (p_move Y Y) Y)) (a_op (g_x Y (x_p Y (p_ixt Y Tryd.underlying9 Y Y Y (lrd_get h13)) Y)) (a_op (g_x Y (x_p Y (p_u8_u64 (a := (lrd s0 7)) Y Tryd.underlying5 Tryd.underlying22 Y) Y)) (a_op (g_x Y (x_p Y (p_u64shl (n := 56) Y Y Y Y) Y)) (a_nil)))))))))))))))))))))))))))))))))))))) ?_
  refine t_op Y Y (PureD.opD (p_u64or (a := (((((((lrd s0 0).toUInt64) ||| (shl_u64 ((lrd s0 1).toUInt64) 8)) ||| (shl_u64 ((lrd s0 2).toUInt64) 16)) ||| (shl_u64 ((lrd s0 3).toUInt64) 24)) ||| (shl_u64 ((lrd s0 4).toUInt64) 32)) ||| (shl_u64 ((lrd s0 5).toUInt64) 40)) ||| (shl_u64 ((lrd s0 6).toUInt64) 48)) (b := shl_u64 ((lrd s0 7).toUInt64) 56) Y Y Y)) ?_
  refine t_op Y Y (PureD.opD (p_asg Y Y)) ?_
  refine t_gho (Gho_st (L := [(2, .p (AV.u64 (((((((((lrd s0 0).toUInt64) ||| (shl_u64 ((lrd s0 1).toUInt64) 8)) ||| (shl_u64 ((lrd s0 2).toUInt64) 16)) ||| (shl_u64 ((lrd s0 3).toUInt64) 24)) ||| (shl_u64 ((lrd s0 4).toUInt64) 32)) ||| (shl_u64 ((lrd s0 5).toUInt64) 40)) ||| (shl_u64 ((lrd s0 6).toUInt64) 48)) ||| (shl_u64 ((lrd s0 7).toUInt64) 56))))]) (H := []) (N := 59) Y ⟨TLes.same _, trivial⟩ trivial) ?_
  refine gen1 (fun t2'2 => (⟨[(2, .p (AV.u64 t2'2))], [], 59⟩ : TS)) H ?_
  intro t2'2 H
  refine AW2_ret ?_
  have hz := some_elim H
  subst hz
  exact ⟨⟨res_tmp (.same _), trivial⟩, trivial⟩

/-! utf8.ValidString -/
def g_utf8_ValidString_r7 : List (List (Nat × Option Nat)) := [[(0, none)], [(27, some 0)], [(28, some 1)], [(29, some 2)], [(0, none), (30, some 3)], [(30, some 3), (31, some 4)], [(0, none), (30, some 3)], [(30, some 3), (33, some 6)]]
def g_utf8_ValidString_r7c : List (List Nat) := [[], [0], [0, 1], [0, 1, 2], [0, 1, 2, 3], [0, 1, 2, 3, 4], [0, 1, 2, 3], [0, 1, 2, 3, 6], [0, 1, 2, 3, 4, 5, 6, 7], [0, 1, 2, 3, 4, 5, 6, 7, 8], [0, 1, 2, 3, 4, 5, 6, 7, 8, 9], [0, 1, 2, 3, 4, 5, 6, 7, 8, 9, 10], [0, 1, 2, 3, 4, 5, 6, 7, 8, 9, 10, 11]]
def g_utf8_ValidString_r9 : List (List (Nat × Option Nat)) := [[(0, none)], [(42, some 0)], [(43, some 1)], [(44, some 2)], [(0, none), (45, some 3)], [(45, some 3), (46, some 4)], [(0, none), (45, some 3)], [(45, some 3), (48, some 6)], [(45, some 3), (49, some 7)], [(45, some 3), (47, some 5), (50, some 8)], [(0, none), (45, some 3)], [(45, some 3), (52, some 10)], [(45, some 3), (53, some 11)], [(0, none), (45, some 3)], [(45, some 3), (55, some 13)], [(45, some 3), (56, some 14)], [(45, some 3), (54, some 12), (57, some 15)]]
def g_utf8_ValidString_r9c : List (List Nat) := [[], [0], [0, 1], [0, 1, 2], [0, 1, 2, 3], [0, 1, 2, 3, 4], [0, 1, 2, 3], [0, 1, 2, 3, 6], [0, 1, 2, 3, 4, 5, 6, 7], [0, 1, 2, 3, 4, 5, 6, 7, 8], [0, 1, 2, 3], [0, 1, 2, 3, 10], [0, 1, 2, 3, 4, 5, 6, 7, 8, 10, 11], [0, 1, 2, 3], [0, 1, 2, 3, 13], [0, 1, 2, 3, 4, 5, 6, 7, 8, 10, 11, 12, 13, 14], [0, 1, 2, 3, 4, 5, 6, 7, 8, 10, 11, 12, 13, 14, 15], [0, 1, 2, 3, 4, 5, 6, 7, 8, 9, 10, 11, 12, 13, 14, 15, 16], [0, 1, 2, 3, 4, 5, 6, 7, 8, 9, 10, 11, 12, 13, 14, 15, 16, 17], [0, 1, 2, 3, 4, 5, 6, 7, 8, 9, 10, 11, 12, 13, 14, 15, 16, 17, 18], [0, 1, 2, 3, 4, 5, 6, 7, 8, 9, 10, 11, 12, 13, 14, 15, 16, 17, 18, 19]]
def g_utf8_ValidString_r17 : List (List (Nat × Option Nat)) := [[(0, none)], [(78, some 0)], [(79, some 1)], [(80, some 2)], [(0, none), (81, some 3)], [(81, some 3), (82, some 4)], [(6, none), (81, some 3)], [(81, some 3), (84, some 6)], [(81, some 3), (83, some 5), (85, some 7)], [(81, some 3), (86, some 8)], [(87, some 9)], [(6, none), (88, some 10)], [(88, some 10), (89, some 11)], [(0, none), (88, some 10)], [(88, some 10), (91, some 13)]]
def g_utf8_ValidString_r17c : List (List Nat) := [[], [0], [0, 1], [0, 1, 2], [0, 1, 2, 3], [0, 1, 2, 3, 4], [0, 1, 2, 3], [0, 1, 2, 3, 6], [0, 1, 2, 3, 4, 5, 6, 7], [0, 1, 2, 3, 4, 5, 6, 7, 8], [0, 1, 2, 3, 4, 5, 6, 7, 8, 9], [0, 1, 2, 3, 4, 5, 6, 7, 8, 9, 10], [0, 1, 2, 3, 4, 5, 6, 7, 8, 9, 10, 11], [0, 1, 2, 3, 4, 5, 6, 7, 8, 9, 10], [0, 1, 2, 3, 4, 5, 6, 7, 8, 9, 10, 13], [0, 1, 2, 3, 4, 5, 6, 7, 8, 9, 10, 11, 12, 13, 14], [0, 1, 2, 3, 4, 5, 6, 7, 8, 9, 10, 11, 12, 13, 14, 15]]
def g_utf8_ValidString_r21 : List (List (Nat × Option Nat)) := [[(0, none)], [(99, some 0)], [(100, some 1)], [(101, some 2)], [(0, none), (102, some 3)], [(102, some 3), (103, some 4)], [(6, none), (102, some 3)], [(102, some 3), (105, some 6)], [(102, some 3), (104, some 5), (106, some 7)], [(102, some 3), (107, some 8)], [(108, some 9)], [(6, none), (109, some 10)], [(109, some 10), (110, some 11)], [(0, none), (109, some 10)], [(109, some 10), (112, some 13)]]
def g_utf8_ValidString_r21c : List (List Nat) := [[], [0], [0, 1], [0, 1, 2], [0, 1, 2, 3], [0, 1, 2, 3, 4], [0, 1, 2, 3], [0, 1, 2, 3, 6], [0, 1, 2, 3, 4, 5, 6, 7], [0, 1, 2, 3, 4, 5, 6, 7, 8], [0, 1, 2, 3, 4, 5, 6, 7, 8, 9], [0, 1, 2, 3, 4, 5, 6, 7, 8, 9, 10], [0, 1, 2, 3, 4, 5, 6, 7, 8, 9, 10, 11], [0, 1, 2, 3, 4, 5, 6, 7, 8, 9, 10], [0, 1, 2, 3, 4, 5, 6, 7, 8, 9, 10, 13], [0, 1, 2, 3, 4, 5, 6, 7, 8, 9, 10, 11, 12, 13, 14], [0, 1, 2, 3, 4, 5, 6, 7, 8, 9, 10, 11, 12, 13, 14, 15], [0, 1, 2, 3, 4, 5, 6, 7, 8, 9, 10, 11, 12, 13, 14, 15, 16], [0, 1, 2, 3, 4, 5, 6, 7, 8, 9, 10, 11, 12, 13, 14, 15, 16, 17], [0, 1, 2, 3, 4, 5, 6, 7, 8, 9, 10, 11, 12, 13, 14, 15, 16, 17, 18], [0, 1, 2, 3, 4, 5, 6, 7, 8, 9, 10, 11, 12, 13, 14, 15, 16, 17, 18, 19], [0, 1, 2, 3, 4, 5, 6, 7, 8, 9, 10, 11, 12, 13, 14, 15, 16, 17, 18, 19, 20], [0, 1, 2, 3, 4, 5, 6, 7, 8, 9, 10, 11, 12, 13, 14, 15, 16, 17, 18, 19, 20, 21], [0, 1, 2, 3, 4, 5, 6, 7, 8, 9, 10, 11, 12, 13, 14, 15, 16, 17, 18, 19, 20, 21, 22], [0, 1, 2, 3, 4, 5, 6, 7, 8, 9, 10, 11, 12, 13, 14, 15, 16, 17, 18, 19, 20, 21, 22, 23], [0, 1, 2, 3, 4, 5, 6, 7, 8, 9, 10, 11, 12, 13, 14, 15, 16, 17, 18, 19, 20, 21, 22, 23, 24], [0, 1, 2, 3, 4, 5, 6, 7, 8, 9, 10, 11, 12, 13, 14, 15, 16, 17, 18, 19, 20, 21, 22, 23, 24, 25]]
def g_utf8_ValidString_r25 : List (List (Nat × Option Nat)) := [[(0, none)], [(130, some 0)], [(131, some 1)], [(132, some 2)], [(0, none), (133, some 3)], [(133, some 3), (134, some 4)], [(6, none), (133, some 3)], [(133, some 3), (136, some 6)], [(133, some 3), (135, some 5), (137, some 7)], [(133, some 3), (138, some 8)], [(139, some 9)], [(6, none), (140, some 10)], [(140, some 10), (141, some 11)], [(0, none), (140, some 10)], [(140, some 10), (143, some 13)]]
def g_utf8_ValidString_r25c : List (List Nat) := [[], [0], [0, 1], [0, 1, 2], [0, 1, 2, 3], [0, 1, 2, 3, 4], [0, 1, 2, 3], [0, 1, 2, 3, 6], [0, 1, 2, 3, 4, 5, 6, 7], [0, 1, 2, 3, 4, 5, 6, 7, 8], [0, 1, 2, 3, 4, 5, 6, 7, 8, 9], [0, 1, 2, 3, 4, 5, 6, 7, 8, 9, 10], [0, 1, 2, 3, 4, 5, 6, 7, 8, 9, 10, 11], [0, 1, 2, 3, 4, 5, 6, 7, 8, 9, 10], [0, 1, 2, 3, 4, 5, 6, 7, 8, 9, 10, 13], [0, 1, 2, 3, 4, 5, 6, 7, 8, 9, 10, 11, 12, 13, 14], [0, 1, 2, 3, 4, 5, 6, 7, 8, 9, 10, 11, 12, 13, 14, 15], [0, 1, 2, 3, 4, 5, 6, 7, 8, 9, 10, 11, 12, 13, 14, 15, 16], [0, 1, 2, 3, 4, 5, 6, 7, 8, 9, 10, 11, 12, 13, 14, 15, 16, 17], [0, 1, 2, 3, 4, 5, 6, 7, 8, 9, 10, 11, 12, 13, 14, 15, 16, 17, 18], [0, 1, 2, 3, 4, 5, 6, 7, 8, 9, 10, 11, 12, 13, 14, 15, 16, 17, 18, 19], [0, 1, 2, 3, 4, 5, 6, 7, 8, 9, 10, 11, 12, 13, 14, 15, 16, 17, 18, 19, 20], [0, 1, 2, 3, 4, 5, 6, 7, 8, 9, 10, 11, 12, 13, 14, 15, 16, 17, 18, 19, 20, 21], [0, 1, 2, 3, 4, 5, 6, 7, 8, 9, 10, 11, 12, 13, 14, 15, 16, 17, 18, 19, 20, 21, 22], [0, 1, 2, 3, 4, 5, 6, 7, 8, 9, 10, 11, 12, 13, 14, 15, 16, 17, 18, 19, 20, 21, 22, 23], [0, 1, 2, 3, 4, 5, 6, 7, 8, 9, 10, 11, 12, 13, 14, 15, 16, 17, 18, 19, 20, 21, 22, 23, 24], [0, 1, 2, 3, 4, 5, 6, 7, 8, 9, 10, 11, 12, 13, 14, 15, 16, 17, 18, 19, 20, 21, 22, 23, 24, 25], [0, 1, 2, 3, 4, 5, 6, 7, 8, 9, 10, 11, 12, 13, 14, 15, 16, 17, 18, 19, 20, 21, 22, 23, 24, 25, 26], [0, 1, 2, 3, 4, 5, 6, 7, 8, 9, 10, 11, 12, 13, 14, 15, 16, 17, 18, 19, 20, 21, 22, 23, 24, 25, 26, 27], [0, 1, 2, 3, 4, 5, 6, 7, 8, 9, 10, 11, 12, 13, 14, 15, 16, 17, 18, 19, 20, 21, 22, 23, 24, 25, 26, 27, 28], [0, 1, 2, 3, 4, 5, 6, 7, 8, 9, 10, 11, 12, 13, 14, 15, 16, 17, 18, 19, 20, 21, 22, 23, 24, 25, 26, 27, 28, 29], [0, 1, 2, 3, 4, 5, 6, 7, 8, 9, 10, 11, 12, 13, 14, 15, 16, 17, 18, 19, 20, 21, 22, 23, 24, 25, 26, 27, 28, 29, 30], [0, 1, 2, 3, 4, 5, 6, 7, 8, 9, 10, 11, 12, 13, 14, 15, 16, 17, 18, 19, 20, 21, 22, 23, 24, 25, 26, 27, 28, 29, 30, 31], [0, 1, 2, 3, 4, 5, 6, 7, 8, 9, 10, 11, 12, 13, 14, 15, 16, 17, 18, 19, 20, 21, 22, 23, 24, 25, 26, 27, 28, 29, 30, 31, 32], [0, 1, 2, 3, 4, 5, 6, 7, 8, 9, 10, 11, 12, 13, 14, 15, 16, 17, 18, 19, 20, 21, 22, 23, 24, 25, 26, 27, 28, 29, 30, 31, 32, 33], [0, 1, 2, 3, 4, 5, 6, 7, 8, 9, 10, 11, 12, 13, 14, 15, 16, 17, 18, 19, 20, 21, 22, 23, 24, 25, 26, 27, 28, 29, 30, 31, 32, 33, 34], [0, 1, 2, 3, 4, 5, 6, 7, 8, 9, 10, 11, 12, 13, 14, 15, 16, 17, 18, 19, 20, 21, 22, 23, 24, 25, 26, 27, 28, 29, 30, 31, 32, 33, 34, 35]]
noncomputable def g_utf8_ValidString_l1 : (List UInt8) → Option (((List UInt8)) ⊕ (((List UInt8))))
  | s0_1 => ((if (s0_1.length : Int) > (32 : Int) then (g_utf8_word_string s0_1).bind fun r'9 => if 0 ≤ (8 : Int) ∧ (8 : Int) ≤ (s0_1.length : Int) then (g_utf8_word_string (cut s0_1 (8 : Int) (s0_1.length : Int))).bind fun r'10 => if 0 ≤ (16 : Int) ∧ (16 : Int) ≤ (s0_1.length : Int) then (g_utf8_word_string (cut s0_1 (16 : Int) (s0_1.length : Int))).bind fun r'11 => if 0 ≤ (24 : Int) ∧ (24 : Int) ≤ (s0_1.length : Int) then (g_utf8_word_string (cut s0_1 (24 : Int) (s0_1.length : Int))).bind fun r'12 => some (decide (((r'9 ||| r'10) ||| (r'11 ||| r'12)) &&& (9259542123273814144 : UInt64) = (0 : UInt64))) else none else none else none else some false)).bind fun g'13 => (if g'13 = true then if 0 ≤ (32 : Int) ∧ (32 : Int) ≤ (s0_1.length : Int) then some (.inl (cut s0_1 (32 : Int) (s0_1.length : Int))) else none else some (.inr s0_1))
noncomputable def g_utf8_ValidString_l0 : (List UInt8) → Option (((List UInt8)) ⊕ (Bool ⊕ Unit))
  | s0_0 => (if (s0_0.length : Int) > (0 : Int) then if 0 < s0_0.length then (if (lrd s0_0 0) < (128 : UInt8) then if 0 ≤ (1 : Int) ∧ (1 : Int) ≤ (s0_0.length : Int) then (((if ((cut s0_0 (1 : Int) (s0_0.length : Int)).length : Int) > (8 : Int) then (g_utf8_word_string (cut s0_0 (1 : Int) (s0_0.length : Int))).bind fun r'3 => some (decide (r'3 &&& (9259542123273814144 : UInt64) = (0 : UInt64))) else some false)).bind fun g'4 => (if g'4 = true then if 0 ≤ (8 : Int) ∧ (8 : Int) ≤ ((cut s0_0 (1 : Int) (s0_0.length : Int)).length : Int) then letO ((cut (cut s0_0 (1 : Int) (s0_0.length : Int)) (8 : Int) ((cut s0_0 (1 : Int) (s0_0.length : Int)).length : Int))) fun s0'5 => ((if (s0'5.length : Int) > (16 : Int) then (g_utf8_word_string s0'5).bind fun r'6 => if 0 ≤ (8 : Int) ∧ (8 : Int) ≤ (s0'5.length : Int) then (g_utf8_word_string (cut s0'5 (8 : Int) (s0'5.length : Int))).bind fun r'7 => some (decide ((r'6 ||| r'7) &&& (9259542123273814144 : UInt64) = (0 : UInt64))) else none else some false)).bind fun g'8 => (if g'8 = true then if 0 ≤ (16 : Int) ∧ (16 : Int) ≤ (s0'5.length : Int) then (loopO (g_utf8_ValidString_l1) (cut s0'5 (16 : Int) (s0'5.length : Int))).bind fun y'17 => some y'17 else none else some s0'5) else none else some (cut s0_0 (1 : Int) (s0_0.length : Int)))).bind fun j'1 => some (.inl j'1) else none else if 0 ≤ ((lrd s0_0 0).toNat : Int) ∧ ((lrd s0_0 0).toNat : Int) < (256 : Int) then letO ((((lrd tab1 (((lrd s0_0 0).toNat : Int).toNat)) &&& (7 : UInt8)).toNat : Int)) fun size5'18 => if 0 ≤ ((shr_u8 (lrd tab1 (((lrd s0_0 0).toNat : Int).toNat)) 4).toNat : Int) ∧ ((shr_u8 (lrd tab1 (((lrd s0_0 0).toNat : Int).toNat)) 4).toNat : Int) < (16 : Int) then letO ((lrd tab2 (((shr_u8 (lrd tab1 (((lrd s0_0 0).toNat : Int).toNat)) 4).toNat : Int).toNat))) fun accept6'19 => (if size5'18 = (2 : Int) then ((if (s0_0.length : Int) < (2 : Int) then some true else if 1 < s0_0.length then (if (lrd s0_0 1) < accept6'19.lo_ then some true else if 1 < s0_0.length then some (decide (accept6'19.hi_ < (lrd s0_0 1))) else none) else none)).bind fun g'20 => (if g'20 = true then some (.inr (.inl false)) else if 0 ≤ (2 : Int) ∧ (2 : Int) ≤ (s0_0.length : Int) then some (.inl (cut s0_0 (2 : Int) (s0_0.length : Int))) else none) else (if size5'18 = (3 : Int) then ((if (s0_0.length : Int) < (3 : Int) then some true else if 1 < s0_0.length then (if (lrd s0_0 1) < accept6'19.lo_ then some true else if 1 < s0_0.length then (if accept6'19.hi_ < (lrd s0_0 1) then some true else if 2 < s0_0.length then (if (lrd s0_0 2) < (128 : UInt8) then some true else if 2 < s0_0.length then some (decide ((191 : UInt8) < (lrd s0_0 2))) else none) else none) else none) else none)).bind fun g'21 => (if g'21 = true then some (.inr (.inl false)) else if 0 ≤ (3 : Int) ∧ (3 : Int) ≤ (s0_0.length : Int) then some (.inl (cut s0_0 (3 : Int) (s0_0.length : Int))) else none) else (if size5'18 = (4 : Int) then ((if (s0_0.length : Int) < (4 : Int) then some true else if 1 < s0_0.length then (if (lrd s0_0 1) < accept6'19.lo_ then some true else if 1 < s0_0.length then (if accept6'19.hi_ < (lrd s0_0 1) then some true else if 2 < s0_0.length then (if (lrd s0_0 2) < (128 : UInt8) then some true else if 2 < s0_0.length then (if (191 : UInt8) < (lrd s0_0 2) then some true else if 3 < s0_0.length then (if (lrd s0_0 3) < (128 : UInt8) then some true else if 3 < s0_0.length then some (decide ((191 : UInt8) < (lrd s0_0 3))) else none) else none) else none) else none) else none) else none)).bind fun g'22 => (if g'22 = true then some (.inr (.inl false)) else if 0 ≤ (4 : Int) ∧ (4 : Int) ≤ (s0_0.length : Int) then some (.inl (cut s0_0 (4 : Int) (s0_0.length : Int))) else none) else some (.inr (.inl false))))) else none else none) else none else some (.inr (.inr ())))
noncomputable def g_utf8_ValidString (s0 : List UInt8) : Option (Bool) :=
  (loopO (g_utf8_ValidString_l0) s0).bind fun o'26 => match o'26 with | .inl y'27 => some y'27 | .inr (y'28) => some true
set_option maxHeartbeats 4000000 in
set_option maxRecDepth 100000 in
theorem g_utf8_ValidString_ac {s0 : List UInt8} {r : Bool} (H : g_utf8_ValidString s0 = some r) : ACp Tryd.prog 40 [(AV.txt s0)] (AV.bool r) := by
 refine ACp_of (AC2_of_body (vs := [.b r]) Tryd.func40 Y Y (Nat.le_of_ble_eq_true Y) Y ?_) (fun _ => .same _)
 unfold g_utf8_ValidString at H
 refine as2 [(0, .t s0)] [] Y Y Y ?_
 refine sg [0] Y ?_
 refine rp Y Y (p_asg Y Y) ?_
 refine rz [(0, .t s0)] [] Y Y Y ?_
 refine AW2_seq ?_
 refine AW2_block ?_
 refine as2 [(0, .t s0)] [] Y Y Y ?_
 refine bindK H fun o'26 h70 H => ?_
 refine AW2_loopO (fun a'23 : (List UInt8) => (⟨[(0, .t a'23)], [], 169⟩ : TS)) (fun (o : Bool ⊕ Unit) e s' => match o with | .inl y'24 => e = Go.Exit.ret ∧ ResAll Tryd.prog s' [ResultVar.tmp 2] [.b y'24] ∧ HFits s' [] | .inr (y'25) => e = Go.Exit.exit 0 ∧ s' = (⟨[], [], 169⟩ : TS)) h70 Y (fun s0_0 x hx => ?_) (fun e s' hs => ?_)
 ·clear H
  have H := hx
  clear hx
  unfold g_utf8_ValidString_l0 at H
  refine AW2_seq ?_
  refine sg [0, 1, 2] Y ?_
  refine rp Y Y (p_move Y Y) ?_
  refine rp Y Y (p_lent Y Tryd.underlying9 Y) ?_
  refine rp Y Y (p_bin Y Y Y Y) ?_
  refine rz [(0, .t s0_0), (9, .b (decide ((s0_0.length : Int) > (0 : Int))))] [] Y Y Y ?_
  refine AW2_if (p := (s0_0.length : Int) > (0 : Int)) Y (fun h1 => ?_) (fun h1 => ?_)
  ·replace H := ite_then h1 H
   refine as2 [(0, .t s0_0)] [] Y Y Y ?_
   refine AW2_skip ?_
   refine AW2_block ?_
   refine sg [0, 1, 2] Y ?_
   refine rp Y Y (p_move Y Y) ?_
   refine chkK H fun h2 H => ?_
   refine rp Y Y (p_ixt Y Tryd.underlying9 Y Y Y (lrd_get h2)) ?_
   refine rp Y Y (p_asg Y Y) ?_
   refine rz [(0, .t s0_0), (3, .p (AV.b8 (lrd s0_0 0)))] [] Y Y Y ?_
   refine AW2_seq ?_
   refine sg [0, 1] Y ?_
   refine rp Y Y (p_move Y Y) ?_
   refine rp Y Y (p_u8lt (a := (lrd s0_0 0)) (b := (128 : UInt8)) Y Y Y) ?_
   refine rz [(0, .t s0_0), (3, .p (AV.b8 (lrd s0_0 0))), (13, .b (decide ((lrd s0_0 0) < (128 : UInt8))))] [] Y Y Y ?_
   refine AW2_if (p := (lrd s0_0 0) < (128 : UInt8)) Y (fun h3 => ?_) (fun h3 => ?_)
   ·replace H := ite_then h3 H
    refine sg [0, 1, 2] Y ?_
    refine rp Y Y (p_move Y Y) ?_
    refine chkK H fun h4 H => ?_
    refine rp Y Y (u_cutt (a := (1 : Int)) (b := (s0_0.length : Int)) Y Tryd.underlying9 Y (bT_i (show 0 ≤ (1 : Int) ∧ (1 : Int) ≤ (s0_0.length : Int) ∧ (s0_0.length : Int) ≤ (s0_0.length : Int) from ⟨h4.1, h4.2, Int.le_refl _⟩).1 Y) (bT_len _) (show 0 ≤ (1 : Int) ∧ (1 : Int) ≤ (s0_0.length : Int) ∧ (s0_0.length : Int) ≤ (s0_0.length : Int) from ⟨h4.1, h4.2, Int.le_refl _⟩)) ?_
    refine rp Y Y (p_asg Y Y) ?_
    refine rz [(0, .t (cut s0_0 (1 : Int) (s0_0.length : Int)))] [] Y Y Y ?_
    refine AW2_seq ?_
    refine bindK H fun j'1 h5 H => ?_
    refine AW2_mid (⟨[(0, .t j'1)], [], 169⟩ : TS) ?_ ?_
    ·clear H
     have H := h5
     clear h5
     refine AW2_seq ?_
     refine bindK H fun g'4 h9 H => ?_
     refine AW2_mid (⟨[(0, .t (cut s0_0 (1 : Int) (s0_0.length : Int))), (24, .b g'4)], [], 169⟩ : TS) ?_ ?_
     ·clear H
      have H := h9
      clear h9
      refine AW2_reg [0, 1, 2, 3, 4, 5, 6, 7, 8] Y ?_
      refine rp Y Y (p_move Y Y) ?_
      refine rp Y Y (p_lent Y Tryd.underlying9 Y) ?_
      refine rp Y Y (p_bin Y Y Y Y) ?_
      refine rp Y Y (p_move Y Y) ?_
      refine (Classical.em (((cut s0_0 (1 : Int) (s0_0.length : Int)).length : Int) > (8 : Int))).elim (fun h7 => ?_) (fun h7 => ?_)
      ·replace H := ite_then h7 H
       refine r_on Y Y Y Y (dT h7) Y (PureD.opD (p_move Y Y)) ?_
       refine bindK H fun r'3 h8 H => ?_
       refine r_on Y Y Y Y (dT h7) Y (PureD.opD (p_callp Y Y Y Tryd.func66 Y Y (g_utf8_word_string_ac h8) ⟨Y, trivial⟩)) ?_
       refine r_on Y Y Y Y (dT h7) Y (PureD.opD (p_u64and (a := r'3) (b := (9259542123273814144 : UInt64)) Y Y Y)) ?_
       refine r_on Y Y Y Y (dT h7) Y (PureD.opD (p_u64eq (a := r'3 &&& (9259542123273814144 : UInt64)) (b := (0 : UInt64)) Y Y Y)) ?_
       refine rp Y Y (p_pkt Y Y (dT h7) (.same _)) ?_
       refine rs [(0, .t (cut s0_0 (1 : Int) (s0_0.length : Int))), (24, .b (decide (r'3 &&& (9259542123273814144 : UInt64) = (0 : UInt64))))] [] Y Y Y ?_
       have hz := some_elim H
       subst hz
       exact RunW_nil rfl
      ·replace H := ite_else h7 H
       iterate 4 (refine r_off rfl rfl rfl rfl (dF h7) rfl rfl ?_)
       refine rp Y Y (p_pkf Y Y (dF h7) (.same _)) ?_
       refine rs [(0, .t (cut s0_0 (1 : Int) (s0_0.length : Int))), (24, .b false)] [] Y Y Y ?_
       have hz := some_elim H
       subst hz
       exact RunW_nil rfl
     ·refine AW2_cond Y (fun h10 => ?_) (fun h10 => ?_)
      ·replace H := ite_then h10 H
       refine sg [0, 1, 2] Y ?_
       refine rp Y Y (p_move Y Y) ?_
       refine chkK H fun h11 H => ?_
       refine rp Y Y (u_cutt (a := (8 : Int)) (b := ((cut s0_0 (1 : Int) (s0_0.length : Int)).length : Int)) Y Tryd.underlying9 Y (bT_i (show 0 ≤ (8 : Int) ∧ (8 : Int) ≤ ((cut s0_0 (1 : Int) (s0_0.length : Int)).length : Int) ∧ ((cut s0_0 (1 : Int) (s0_0.length : Int)).length : Int) ≤ ((cut s0_0 (1 : Int) (s0_0.length : Int)).length : Int) from ⟨h11.1, h11.2, Int.le_refl _⟩).1 Y) (bT_len _) (show 0 ≤ (8 : Int) ∧ (8 : Int) ≤ ((cut s0_0 (1 : Int) (s0_0.length : Int)).length : Int) ∧ ((cut s0_0 (1 : Int) (s0_0.length : Int)).length : Int) ≤ ((cut s0_0 (1 : Int) (s0_0.length : Int)).length : Int) from ⟨h11.1, h11.2, Int.le_refl _⟩)) ?_
       refine rp Y Y (p_asg Y Y) ?_
       refine rz [(0, .t (cut (cut s0_0 (1 : Int) (s0_0.length : Int)) (8 : Int) ((cut s0_0 (1 : Int) (s0_0.length : Int)).length : Int)))] [] Y Y Y ?_
       refine gen1 (fun s0'5 => (⟨[(0, .t s0'5)], [], 169⟩ : TS)) H ?_
       intro s0'5 H
       refine AW2_seq ?_
       refine bindK H fun g'8 h16 H => ?_
       refine AW2_mid (⟨[(0, .t s0'5), (39, .b g'8)], [], 169⟩ : TS) ?_ ?_
       ·clear H
        have H := h16
        clear h16
        refine (Classical.em ((s0'5.length : Int) > (16 : Int))).elim (fun h12 => ?_) (fun h12 => ?_)
        ·replace H := ite_then h12 H
         refine bindK H fun r'6 h13 H => ?_
         refine chkK H fun h14 H => ?_
         refine bindK H fun r'7 h15 H => ?_
         have hz := some_elim H
         subst hz
         refine AW2_ghoQ ?_
         refine AW2_draw 8 [8, 9, 10, 11, 12] (fun k => ([.t s0'5, .i (s0'5.length : Int), .b (decide ((s0'5.length : Int) > (16 : Int))), .b (decide ((s0'5.length : Int) > (16 : Int))), .t s0'5, .p (AV.u64 r'6), .t s0'5, .t (cut s0'5 (8 : Int) (s0'5.length : Int))] : List TV).getD k TV.any) (fun k => g_utf8_ValidString_r7.getD k []) [(0, none), (30, some 3), (32, some 5), (34, some 7)] [] (fun k => g_utf8_ValidString_r7c.getD k []) mixed (by kernel_rfl) Y Y (a_op (g_x Y (x_p Y (p_move Y Y) Y)) (a_op (g_x Y (x_p Y (p_lent Y Tryd.underlying9 Y) Y)) (a_op (g_x Y (x_p Y (p_bin Y Y Y Y) Y)) (a_op (g_x Y (x_p Y (p_move Y Y) Y)) (a_op (g_on Y Y Y (dT h12) Y (x_p Y (p_move Y Y) Y)) (a_op (g_on Y Y Y (dT h12) Y (x_p Y (p_callp Y Y Y Tryd.func66 Y Y (g_utf8_word_string_ac h13) ⟨Y, trivial⟩) Y)) (a_op (g_on Y Y Y (dT h12) Y (x_p Y (p_move Y Y) Y)) (a_op (g_on Y Y Y (dT h12) Y (x_p Y (u_cutt (a := (8 : Int)) (b := (s0'5.length : Int)) Y Tryd.underlying9 Y (bT_i (show 0 ≤ (8 : Int) ∧ (8 : Int) ≤ (s0'5.length : Int) ∧ (s0'5.length : Int) ≤ (s0'5.length : Int) from ⟨h14.1, h14.2, Int.le_refl _⟩).1 Y) (bT_len _) (show 0 ≤ (8 : Int) ∧ (8 : Int) ≤ (s0'5.length : Int) ∧ (s0'5.length : Int) ≤ (s0'5.length : Int) from ⟨h14.1, h14.2, Int.le_refl _⟩)) Y)) (a_nil))))))))) ?_
         refine t_on Y Y Y Y (dT h12) Y (PureD.opD (p_callp Y Y Y Tryd.func66 Y Y (g_utf8_word_string_ac h15) ⟨Y, trivial⟩)) ?_
         refine t_on Y Y Y Y (dT h12) Y (PureD.opD (p_u64or (a := r'6) (b := r'7) Y Y Y)) ?_
         refine t_on Y Y Y Y (dT h12) Y (PureD.opD (p_u64and (a := r'6 ||| r'7) (b := (9259542123273814144 : UInt64)) Y Y Y)) ?_
         refine t_on Y Y Y Y (dT h12) Y (PureD.opD (p_u64eq (a := (r'6 ||| r'7) &&& (9259542123273814144 : UInt64)) (b := (0 : UInt64)) Y Y Y)) ?_
         refine t_op Y Y (PureD.opD (p_pkt Y Y (dT h12) (.same _))) ?_
         refine t_gho (Gho_st (L := [(0, .t s0'5), (39, .b (decide ((r'6 ||| r'7) &&& (9259542123273814144 : UInt64) = (0 : UInt64))))]) (H := []) (N := 169) Y ⟨TLes.same _, TLes.same _, trivial⟩ trivial) ?_
         exact rfl
        ·replace H := ite_else h12 H
         have hz := some_elim H
         subst hz
         refine AW2_ghoQ ?_
         refine AW2_draw 8 [8, 9, 10, 11, 12] (fun k => ([.t s0'5, .i (s0'5.length : Int), .b (decide ((s0'5.length : Int) > (16 : Int))), .b (decide ((s0'5.length : Int) > (16 : Int))), .p (.tup []), .p (.tup []), .p (.tup []), .p (.tup [])] : List TV).getD k TV.any) (fun k => g_utf8_ValidString_r7.getD k []) [(0, none), (30, some 3), (32, some 5), (34, some 7)] [] (fun k => g_utf8_ValidString_r7c.getD k []) mixed (by kernel_rfl) Y Y (a_op (g_x Y (x_p Y (p_move Y Y) Y)) (a_op (g_x Y (x_p Y (p_lent Y Tryd.underlying9 Y) Y)) (a_op (g_x Y (x_p Y (p_bin Y Y Y Y) Y)) (a_op (g_x Y (x_p Y (p_move Y Y) Y)) (a_op (g_off Y Y Y Y Y (dF h12) Y Y) (a_op (g_off Y Y Y Y Y (dF h12) Y Y) (a_op (g_off Y Y Y Y Y (dF h12) Y Y) (a_op (g_off Y Y Y Y Y (dF h12) Y Y) (a_nil))))))))) ?_
         refine t_off Y Y Y Y (dF h12) Y Y ?_
         refine t_off Y Y Y Y (dF h12) Y Y ?_
         refine t_off Y Y Y Y (dF h12) Y Y ?_
         refine t_off Y Y Y Y (dF h12) Y Y ?_
         refine t_op Y Y (PureD.opD (p_pkf Y Y (dF h12) (.same _))) ?_
         refine t_gho (Gho_st (L := [(0, .t s0'5), (39, .b false)]) (H := []) (N := 169) Y ⟨TLes.same _, TLes.same _, trivial⟩ trivial) ?_
         exact rfl
       ·refine AW2_cond Y (fun h17 => ?_) (fun h17 => ?_)
        ·replace H := ite_then h17 H
         refine sg [0, 1, 2] Y ?_
         refine rp Y Y (p_move Y Y) ?_
         refine chkK H fun h18 H => ?_
         refine rp Y Y (u_cutt (a := (16 : Int)) (b := (s0'5.length : Int)) Y Tryd.underlying9 Y (bT_i (show 0 ≤ (16 : Int) ∧ (16 : Int) ≤ (s0'5.length : Int) ∧ (s0'5.length : Int) ≤ (s0'5.length : Int) from ⟨h18.1, h18.2, Int.le_refl _⟩).1 Y) (bT_len _) (show 0 ≤ (16 : Int) ∧ (16 : Int) ≤ (s0'5.length : Int) ∧ (s0'5.length : Int) ≤ (s0'5.length : Int) from ⟨h18.1, h18.2, Int.le_refl _⟩)) ?_
         refine rp Y Y (p_asg Y Y) ?_
         refine rz [(0, .t (cut s0'5 (16 : Int) (s0'5.length : Int)))] [] Y Y Y ?_
         refine AW2_block ?_
         refine as2 [(0, .t (cut s0'5 (16 : Int) (s0'5.length : Int)))] [] Y Y Y ?_
         refine bindK H fun y'17 h30 H => ?_
         refine AW2_loopO (fun a'14 : (List UInt8) => (⟨[(0, .t a'14)], [], 169⟩ : TS)) (fun (y'15 : ((List UInt8))) e s' => e = Go.Exit.exit 2 ∧ s' = (⟨[(0, .t y'15)], [], 169⟩ : TS)) h30 Y (fun s0_1 x hx => ?_) (fun e s' hs => ?_)
         ·clear H
          have H := hx
          clear hx
          unfold g_utf8_ValidString_l1 at H
          refine AW2_seq ?_
          refine AW2_seq ?_
          refine bindK H fun g'13 h27 H => ?_
          refine AW2_mid (⟨[(0, .t s0_1), (62, .b g'13)], [], 169⟩ : TS) ?_ ?_
          ·clear H
           have H := h27
           clear h27
           refine (Classical.em ((s0_1.length : Int) > (32 : Int))).elim (fun h19 => ?_) (fun h19 => ?_)
           ·replace H := ite_then h19 H
            refine bindK H fun r'9 h20 H => ?_
            refine chkK H fun h21 H => ?_
            refine bindK H fun r'10 h22 H => ?_
            refine chkK H fun h23 H => ?_
            refine bindK H fun r'11 h24 H => ?_
            refine chkK H fun h25 H => ?_
            refine bindK H fun r'12 h26 H => ?_
            have hz := some_elim H
            subst hz
            refine AW2_ghoQ ?_
            refine AW2_draw 17 [17, 18, 19, 20] (fun k => ([.t s0_1, .i (s0_1.length : Int), .b (decide ((s0_1.length : Int) > (32 : Int))), .b (decide ((s0_1.length : Int) > (32 : Int))), .t s0_1, .p (AV.u64 r'9), .t s0_1, .t (cut s0_1 (8 : Int) (s0_1.length : Int)), .p (AV.u64 r'10), .p (AV.u64 (r'9 ||| r'10)), .t s0_1, .t (cut s0_1 (16 : Int) (s0_1.length : Int)), .p (AV.u64 r'11), .t s0_1, .t (cut s0_1 (24 : Int) (s0_1.length : Int)), .p (AV.u64 r'12), .p (AV.u64 (r'11 ||| r'12))] : List TV).getD k TV.any) (fun k => g_utf8_ValidString_r9.getD k []) [(0, none), (45, some 3), (51, some 9), (58, some 16)] [] (fun k => g_utf8_ValidString_r9c.getD k []) mixed (by kernel_rfl) Y Y (a_op (g_x Y (x_p Y (p_move Y Y) Y)) (a_op (g_x Y (x_p Y (p_lent Y Tryd.underlying9 Y) Y)) (a_op (g_x Y (x_p Y (p_bin Y Y Y Y) Y)) (a_op (g_x Y (x_p Y (p_move Y Y) Y)) (a_op (g_on Y Y Y (dT h19) Y (x_p Y (p_move Y Y) Y)) (a_op (g_on Y Y Y (dT h19) Y (x_p Y (p_callp Y Y Y Tryd.func66 Y Y (g_utf8_word_string_ac h20) ⟨Y, trivial⟩) Y)) (a_op (g_on Y Y Y (dT h19) Y (x_p Y (p_move Y Y) Y)) (a_op (g_on Y Y Y (dT h19) Y (x_p Y (u_cutt (a := (8 : Int)) (b := (s0_1.length : Int)) Y Tryd.underlying9 Y (bT_i (show 0 ≤ (8 : Int) ∧ (8 : Int) ≤ (s0_1.length : Int) ∧ (s0_1.length : Int) ≤ (s0_1.length : Int) from ⟨h21.1, h21.2, Int.le_refl _⟩).1 Y) (bT_len _) (show 0 ≤ (8 : Int) ∧ (8 : Int) ≤ (s0_1.length : Int) ∧ (s0_1.length : Int) ≤ (s0_1.length : Int) from ⟨h21.1, h21.2, Int.le_refl _⟩)) Y)) (a_op (g_on Y Y Y (dT h19) Y (x_p Y (p_callp Y Y Y Tryd.func66 Y Y (g_utf8_word_string_ac h22) ⟨Y, trivial⟩) Y)) (a_op (g_on Y Y Y (dT h19) Y (x_p Y (p_u64or (a := r'9) (b := r'10) Y Y Y) Y)) (a_op (g_on Y Y Y (dT h19) Y (x_p Y (p_move Y Y) Y)) (a_op (g_on Y Y Y (dT h19) Y (x_p Y (u_cutt (a := (16 : Int)) (b := (s0_1.length : Int)) Y Tryd.underlying9 Y (bT_i (show 0 ≤ (16 : Int) ∧ (16 : Int) ≤ (s0_1.length : Int) ∧ (s0_1.length : Int) ≤ (s0_1.length : Int) from ⟨h23.1, h23.2, Int.le_refl _⟩).1 Y) (bT_len _) (show 0 ≤ (16 : Int) ∧ (16 : Int) ≤ (s0_1.length : Int) ∧ (s0_1.length : Int) ≤ (s0_1.length : Int) from ⟨h23.1, h23.2, Int.le_refl _⟩)) Y)) (a_op (g_on Y Y Y (dT h19) Y (x_p Y (p_callp Y Y Y Tryd.func66 Y Y (g_utf8_word_string_ac h24) ⟨Y, trivial⟩) Y)) (a_op (g_on Y Y Y (dT h19) Y (x_p Y (p_move Y Y) Y)) (a_op (g_on Y Y Y (dT h19) Y (x_p Y (u_cutt (a := (24 : Int)) (b := (s0_1.length : Int)) Y Tryd.underlying9 Y (bT_i (show 0 ≤ (24 : Int) ∧ (24 : Int) ≤ (s0_1.length : Int) ∧ (s0_1.length : Int) ≤ (s0_1.length : Int) from ⟨h25.1, h25.2, Int.le_refl _⟩).1 Y) (bT_len _) (show 0 ≤ (24 : Int) ∧ (24 : Int) ≤ (s0_1.length : Int) ∧ (s0_1.length : Int) ≤ (s0_1.length : Int) from ⟨h25.1, h25.2, Int.le_refl _⟩)) Y)) (a_op (g_on Y Y Y (dT h19) Y (x_p Y (p_callp Y Y Y Tryd.func66 Y Y (g_utf8_word_string_ac h26) ⟨Y, trivial⟩) Y)) (a_op (g_on Y Y Y (dT h19) Y (x_p Y (p_u64or (a := r'11) (b := r'12) Y Y Y) Y)) (a_nil)))))))))))))))))) ?_
            refine t_on Y Y Y Y (dT h19) Y (PureD.opD (p_u64or (a := r'9 ||| r'10) (b := r'11 ||| r'12) Y Y Y)) ?_
            refine t_on Y Y Y Y (dT h19) Y (PureD.opD (p_u64and (a := (r'9 ||| r'10) ||| (r'11 ||| r'12)) (b := (9259542123273814144 : UInt64)) Y Y Y)) ?_
            refine t_on Y Y Y Y (dT h19) Y (PureD.opD (p_u64eq (a := ((r'9 ||| r'10) ||| (r'11 ||| r'12)) &&& (9259542123273814144 : UInt64)) (b := (0 : UInt64)) Y Y Y)) ?_
            refine t_op Y Y (PureD.opD (p_pkt Y Y (dT h19) (.same _))) ?_
            refine t_gho (Gho_st (L := [(0, .t s0_1), (62, .b (decide (((r'9 ||| r'10) ||| (r'11 ||| r'12)) &&& (9259542123273814144 : UInt64) = (0 : UInt64))))]) (H := []) (N := 169) Y ⟨TLes.same _, TLes.same _, trivial⟩ trivial) ?_
            exact rfl
           ·replace H := ite_else h19 H
            have hz := some_elim H
            subst hz
            refine AW2_ghoQ ?_
            refine AW2_draw 17 [17, 18, 19, 20] (fun k => ([.t s0_1, .i (s0_1.length : Int), .b (decide ((s0_1.length : Int) > (32 : Int))), .b (decide ((s0_1.length : Int) > (32 : Int))), .p (.tup []), .p (.tup []), .p (.tup []), .p (.tup []), .p (.tup []), .p (.tup []), .p (.tup []), .p (.tup []), .p (.tup []), .p (.tup []), .p (.tup []), .p (.tup []), .p (.tup [])] : List TV).getD k TV.any) (fun k => g_utf8_ValidString_r9.getD k []) [(0, none), (45, some 3), (51, some 9), (58, some 16)] [] (fun k => g_utf8_ValidString_r9c.getD k []) mixed (by kernel_rfl) Y Y (a_op (g_x Y (x_p Y (p_move Y Y) Y)) (a_op (g_x Y (x_p Y (p_lent Y Tryd.underlying9 Y) Y)) (a_op (g_x Y (x_p Y (p_bin Y Y Y Y) Y)) (a_op (g_x Y (x_p Y (p_move Y Y) Y)) (a_op (g_off Y Y Y Y Y (dF h19) Y Y) (a_op (g_off Y Y Y Y Y (dF h19) Y Y) (a_op (g_off Y Y Y Y Y (dF h19) Y Y) (a_op (g_off Y Y Y Y Y (dF h19) Y Y) (a_op (g_off Y Y Y Y Y (dF h19) Y Y) (a_op (g_off Y Y Y Y Y (dF h19) Y Y) (a_op (g_off Y Y Y Y Y (dF h19) Y Y) (a_op (g_off Y Y Y Y Y (dF h19) Y Y) (a_op (g_off Y Y Y Y Y (dF h19) Y Y) (a_op (g_off Y Y Y Y Y (dF h19) Y Y) (a_op (g_off Y Y Y Y Y (dF h19) Y Y) (a_op (g_off Y Y Y Y Y (dF h19) Y Y) (a_op (g_off Y Y Y Y Y (dF h19) Y Y) (a_nil)))))))))))))))))) ?_
            refine t_off Y Y Y Y (dF h19) Y Y ?_
            refine t_off Y Y Y Y (dF h19) Y Y ?_
            refine t_off Y Y Y Y (dF h19) Y Y ?_
            refine t_op Y Y (PureD.opD (p_pkf Y Y (dF h19) (.same _))) ?_
            refine t_gho (Gho_st (L := [(0, .t s0_1), (62, .b false)]) (H := []) (N := 169) Y ⟨TLes.same _, TLes.same _, trivial⟩ trivial) ?_
            exact rfl
          ·refine AW2_cond Y (fun h28 => ?_) (fun h28 => ?_)
           ·replace H := ite_then h28 H
            refine as2 [(0, .t s0_1)] [] Y Y Y ?_
            refine AW2_skip ?_
            refine AW2_block ?_
            refine AW2_reg [0, 1, 2] Y ?_
            refine rp Y Y (p_move Y Y) ?_
            refine chkK H fun h29 H => ?_
            refine rp Y Y (u_cutt (a := (32 : Int)) (b := (s0_1.length : Int)) Y Tryd.underlying9 Y (bT_i (show 0 ≤ (32 : Int) ∧ (32 : Int) ≤ (s0_1.length : Int) ∧ (s0_1.length : Int) ≤ (s0_1.length : Int) from ⟨h29.1, h29.2, Int.le_refl _⟩).1 Y) (bT_len _) (show 0 ≤ (32 : Int) ∧ (32 : Int) ≤ (s0_1.length : Int) ∧ (s0_1.length : Int) ≤ (s0_1.length : Int) from ⟨h29.1, h29.2, Int.le_refl _⟩)) ?_
            refine rp Y Y (p_asg Y Y) ?_
            refine rz [(0, .t (cut s0_1 (32 : Int) (s0_1.length : Int)))] [] Y Y Y ?_
            have hz := some_elim H
            subst hz
            exact ⟨Y, Y⟩
           ·replace H := ite_else (ne_true h28) H
            refine as2 [(0, .t s0_1)] [] Y Y Y ?_
            refine AW2_exit ?_
            refine thenQ2_exit ?_
            have hz := some_elim H
            subst hz
            exact ⟨Y, Y⟩
         ·obtain ⟨rfl, rfl⟩ := hs
          refine ⟨by simp, ?_⟩
          refine blockQ2_exit ?_
          have hz := some_elim H
          subst hz
          exact rfl
        ·replace H := ite_else (ne_true h17) H
         refine as2 [(0, .t s0'5)] [] Y Y Y ?_
         refine AW2_skip ?_
         have hz := some_elim H
         subst hz
         exact rfl
      ·replace H := ite_else (ne_true h10) H
       refine as2 [(0, .t (cut s0_0 (1 : Int) (s0_0.length : Int)))] [] Y Y Y ?_
       refine AW2_skip ?_
       have hz := some_elim H
       subst hz
       exact rfl
    ·refine as2 [(0, .t j'1)] [] Y Y Y ?_
     refine AW2_exit ?_
     refine thenQ2_exit ?_
     refine blockQ2_exit ?_
     have hz := some_elim H
     subst hz
     exact ⟨Y, Y⟩
   ·replace H := ite_else h3 H
    refine as2 [(0, .t s0_0), (3, .p (AV.b8 (lrd s0_0 0)))] [] Y Y Y ?_
    refine AW2_skip ?_
    refine sg [0, 1, 2, 3] Y ?_
    refine rp Y Y (p_move Y Y) ?_
    refine chkK H fun h32 H => ?_
    refine rp Y Y (u_ixq Y Y Tryd.underlying88 in_5 tab1_rd Y (ixe h32) (ixn h32)) ?_
    refine rp Y Y (u_ld Y Y Tryd.underlying5 Y Y ((Sub.refl _).trans (Sub.map default (ixn h32)))) ?_
    refine rp Y Y (p_asg Y Y) ?_
    refine rz [(0, .t s0_0), (4, .p (AV.b8 (lrd tab1 (((lrd s0_0 0).toNat : Int).toNat))))] [] Y Y Y ?_
    refine sg [0, 1, 2, 3] Y ?_
    refine rp Y Y (p_move Y Y) ?_
    refine rp Y Y (p_u8and (a := (lrd tab1 (((lrd s0_0 0).toNat : Int).toNat))) (b := (7 : UInt8)) Y Y Y) ?_
    refine rp Y Y (p_ci Y Tryd.underlying5 Tryd.underlying3 Y (wrapu8i ((lrd tab1 (((lrd s0_0 0).toNat : Int).toNat)) &&& (7 : UInt8)))) ?_
    refine rp Y Y (p_asg Y Y) ?_
    refine rz [(0, .t s0_0), (4, .p (AV.b8 (lrd tab1 (((lrd s0_0 0).toNat : Int).toNat)))), (5, .i (((lrd tab1 (((lrd s0_0 0).toNat : Int).toNat)) &&& (7 : UInt8)).toNat : Int))] [] Y Y Y ?_
    refine gen1 (fun size5'18 => (⟨[(0, .t s0_0), (4, .p (AV.b8 (lrd tab1 (((lrd s0_0 0).toNat : Int).toNat)))), (5, .i size5'18)], [], 169⟩ : TS)) H ?_
    intro size5'18 H
    refine sg [0, 1, 2, 3, 4, 5] Y ?_
    refine rp Y Y (p_move Y Y) ?_
    refine rp Y Y (p_u8shr (n := 4) Y Y Y Y) ?_
    refine chkK H fun h33 H => ?_
    refine rp Y Y (u_ixq Y Y Tryd.underlying91 in_90 tab2_rd Y (ixe h33) (ixn h33)) ?_
    refine rp Y Y (u_lda Y Y Tryd.underlying90 Y in_90 Y (Nat.succ_pos _) ((Sub.refl _).trans (Sub.fm default (fun x => (Gutf8_acceptRange.len x)) (ixn h33))) (Gutf8_acceptRange.len (lrd tab2 (((shr_u8 (lrd tab1 (((lrd s0_0 0).toNat : Int).toNat)) 4).toNat : Int).toNat)))) ?_
    refine r_op Y Y (MakeD.opD (u_alloc 6 Y in_90 one_90 zc_90) Y Y Y Y) ?_
    refine r_op Y Y (u_st Y Y Y Y Y in_90 (Gutf8_acceptRange.len (lrd tab2 (((shr_u8 (lrd tab1 (((lrd s0_0 0).toNat : Int).toNat)) 4).toNat : Int).toNat))) (nl (Gutf8_acceptRange.len Gutf8_acceptRange.zero)) (Upd.refl ((Gutf8_acceptRange.len (lrd tab2 (((shr_u8 (lrd tab1 (((lrd s0_0 0).toNat : Int).toNat)) 4).toNat : Int).toNat))).trans (Gutf8_acceptRange.len Gutf8_acceptRange.zero).symm))) ?_
    refine rz [(0, .t s0_0), (5, .i size5'18), (6, .q 6 (0))] [(6, .pure (Gutf8_acceptRange.cs (lrd tab2 (((shr_u8 (lrd tab1 (((lrd s0_0 0).toNat : Int).toNat)) 4).toNat : Int).toNat))))] Y Y Y ?_
    refine gen1 (fun accept6'19 => (⟨[(0, .t s0_0), (5, .i size5'18), (6, .q 6 (0))], [(6, .pure (Gutf8_acceptRange.cs accept6'19))], 169⟩ : TS)) H ?_
    intro accept6'19 H
    refine sg [0] Y ?_
    refine rp Y Y (p_move Y Y) ?_
    refine rz [(0, .t s0_0), (6, .q 6 (0)), (75, .i size5'18)] [(6, .pure (Gutf8_acceptRange.cs accept6'19))] Y Y Y ?_
    refine AW2_block ?_
    refine sg [0, 1] Y ?_
    refine rp Y Y (p_ieq Y Y Y) ?_
    refine rp Y Y (p_asg Y Y) ?_
    refine rz [(0, .t s0_0), (6, .q 6 (0)), (75, .i size5'18), (76, .b (decide (size5'18 = (2 : Int))))] [(6, .pure (Gutf8_acceptRange.cs accept6'19))] Y Y Y ?_
    refine AW2_if (p := size5'18 = (2 : Int)) Y (fun h34 => ?_) (fun h34 => ?_)
    ·replace H := ite_then h34 H
     refine AW2_seq ?_
     refine AW2_seq ?_
     refine bindK H fun g'20 h39 H => ?_
     refine AW2_mid (⟨[(0, .t s0_0), (94, .b g'20)], [], 169⟩ : TS) ?_ ?_
     ·clear H
      have H := h39
      clear h39
      refine (Classical.em ((s0_0.length : Int) < (2 : Int))).elim (fun h35 => ?_) (fun h35 => ?_)
      ·replace H := ite_then h35 H
       have hz := some_elim H
       subst hz
       refine AW2_ghoQ ?_
       refine AW2_draw 15 [15, 16] (fun k => ([.t s0_0, .i (s0_0.length : Int), .b (decide ((s0_0.length : Int) < (2 : Int))), .b (decide ((s0_0.length : Int) < (2 : Int))), .p (.tup []), .p (.tup []), .p (.tup []), .p (.tup []), .p (.tup []), .b true, .b true, .p (.tup []), .p (.tup []), .p (.tup []), .p (.tup [])] : List TV).getD k TV.any) (fun k => g_utf8_ValidString_r17.getD k []) [(0, none), (88, some 10), (90, some 12), (92, some 14)] [] (fun k => g_utf8_ValidString_r17c.getD k []) mixed (by kernel_rfl) Y Y (a_op (g_x Y (x_p Y (p_move Y Y) Y)) (a_op (g_x Y (x_p Y (p_lent Y Tryd.underlying9 Y) Y)) (a_op (g_x Y (x_p Y (p_bin Y Y Y Y) Y)) (a_op (g_x Y (x_p Y (p_move Y Y) Y)) (a_op (g_off Y Y Y Y Y (dT h35) Y Y) (a_op (g_off Y Y Y Y Y (dT h35) Y Y) (a_op (g_off Y Y Y Y Y (dT h35) Y Y) (a_op (g_off Y Y Y Y Y (dT h35) Y Y) (a_op (g_off Y Y Y Y Y (dT h35) Y Y) (a_op (g_x Y (x_p Y (p_pkt Y Y (dT h35) (.same _)) Y)) (a_op (g_x Y (x_p Y (p_move Y Y) Y)) (a_op (g_off Y Y Y Y Y Y Y Y) (a_op (g_off Y Y Y Y Y Y Y Y) (a_op (g_off Y Y Y Y Y Y Y Y) (a_op (g_off Y Y Y Y Y Y Y Y) (a_nil)))))))))))))))) ?_
       refine t_off Y Y Y Y Y Y Y ?_
       refine t_op Y Y (PureD.opD (p_pkt Y Y Y (.same _))) ?_
       refine t_gho (Gho_st (L := [(0, .t s0_0), (94, .b true)]) (H := []) (N := 169) Y ⟨TLes.same _, TLes.same _, trivial⟩ trivial) ?_
       exact rfl
      ·replace H := ite_else h35 H
       refine chkK H fun h36 H => ?_
       refine (Classical.em ((lrd s0_0 1) < accept6'19.lo_)).elim (fun h37 => ?_) (fun h37 => ?_)
       ·replace H := ite_then h37 H
        have hz := some_elim H
        subst hz
        refine AW2_ghoQ ?_
        refine AW2_draw 15 [15, 16] (fun k => ([.t s0_0, .i (s0_0.length : Int), .b (decide ((s0_0.length : Int) < (2 : Int))), .b (decide ((s0_0.length : Int) < (2 : Int))), .t s0_0, .p (AV.b8 (lrd s0_0 1)), .q 6 (0 + 0), .p (AV.b8 accept6'19.lo_), .b (decide ((lrd s0_0 1) < accept6'19.lo_)), .b (decide ((lrd s0_0 1) < accept6'19.lo_)), .b (decide ((lrd s0_0 1) < accept6'19.lo_)), .p (.tup []), .p (.tup []), .p (.tup []), .p (.tup [])] : List TV).getD k TV.any) (fun k => g_utf8_ValidString_r17.getD k []) [(0, none), (88, some 10), (90, some 12), (92, some 14)] [] (fun k => g_utf8_ValidString_r17c.getD k []) mixed (by kernel_rfl) Y Y (a_op (g_x Y (x_p Y (p_move Y Y) Y)) (a_op (g_x Y (x_p Y (p_lent Y Tryd.underlying9 Y) Y)) (a_op (g_x Y (x_p Y (p_bin Y Y Y Y) Y)) (a_op (g_x Y (x_p Y (p_move Y Y) Y)) (a_op (g_on Y Y Y (dF h35) Y (x_p Y (p_move Y Y) Y)) (a_op (g_on Y Y Y (dF h35) Y (x_p Y (p_ixt Y Tryd.underlying9 Y Y Y (lrd_get h36)) Y)) (a_op (g_on Y Y Y (dF h35) Y (x_p Y (u_fa Y Y Tryd.underlying90 Y in_5 nz Y Y (nl (Gutf8_acceptRange.len accept6'19))) Y)) (a_op (g_on Y Y Y (dF h35) Y (x_p Y (u_ld Y Y Tryd.underlying5 Y Y ((Sub.refl _).trans (Gutf8_acceptRange.sub0 accept6'19))) Y)) (a_op (g_on Y Y Y (dF h35) Y (x_p Y (p_u8lt (a := (lrd s0_0 1)) (b := accept6'19.lo_) Y Y Y) Y)) (a_op (g_x Y (x_p Y (p_pkf Y Y (dF h35) (.same _)) Y)) (a_op (g_x Y (x_p Y (p_move Y Y) Y)) (a_op (g_off Y Y Y Y Y (dT h37) Y Y) (a_op (g_off Y Y Y Y Y (dT h37) Y Y) (a_op (g_off Y Y Y Y Y (dT h37) Y Y) (a_op (g_off Y Y Y Y Y (dT h37) Y Y) (a_nil)))))))))))))))) ?_
        refine t_off Y Y Y Y (dT h37) Y Y ?_
        refine t_op Y Y (PureD.opD (p_pkt Y Y (dT h37) (.same _))) ?_
        refine t_gho (Gho_st (L := [(0, .t s0_0), (94, .b true)]) (H := []) (N := 169) Y ⟨TLes.same _, TLes.same _, trivial⟩ trivial) ?_
        exact rfl
       ·replace H := ite_else h37 H
        refine chkK H fun h38 H => ?_
        have hz := some_elim H
        subst hz
        refine AW2_ghoQ ?_
        refine AW2_draw 15 [15, 16] (fun k => ([.t s0_0, .i (s0_0.length : Int), .b (decide ((s0_0.length : Int) < (2 : Int))), .b (decide ((s0_0.length : Int) < (2 : Int))), .t s0_0, .p (AV.b8 (lrd s0_0 1)), .q 6 (0 + 0), .p (AV.b8 accept6'19.lo_), .b (decide ((lrd s0_0 1) < accept6'19.lo_)), .b (decide ((lrd s0_0 1) < accept6'19.lo_)), .b (decide ((lrd s0_0 1) < accept6'19.lo_)), .q 6 (0 + 1), .p (AV.b8 accept6'19.hi_), .t s0_0, .p (AV.b8 (lrd s0_0 1))] : List TV).getD k TV.any) (fun k => g_utf8_ValidString_r17.getD k []) [(0, none), (88, some 10), (90, some 12), (92, some 14)] [] (fun k => g_utf8_ValidString_r17c.getD k []) mixed (by kernel_rfl) Y Y (a_op (g_x Y (x_p Y (p_move Y Y) Y)) (a_op (g_x Y (x_p Y (p_lent Y Tryd.underlying9 Y) Y)) (a_op (g_x Y (x_p Y (p_bin Y Y Y Y) Y)) (a_op (g_x Y (x_p Y (p_move Y Y) Y)) (a_op (g_on Y Y Y (dF h35) Y (x_p Y (p_move Y Y) Y)) (a_op (g_on Y Y Y (dF h35) Y (x_p Y (p_ixt Y Tryd.underlying9 Y Y Y (lrd_get h36)) Y)) (a_op (g_on Y Y Y (dF h35) Y (x_p Y (u_fa Y Y Tryd.underlying90 Y in_5 nz Y Y (nl (Gutf8_acceptRange.len accept6'19))) Y)) (a_op (g_on Y Y Y (dF h35) Y (x_p Y (u_ld Y Y Tryd.underlying5 Y Y ((Sub.refl _).trans (Gutf8_acceptRange.sub0 accept6'19))) Y)) (a_op (g_on Y Y Y (dF h35) Y (x_p Y (p_u8lt (a := (lrd s0_0 1)) (b := accept6'19.lo_) Y Y Y) Y)) (a_op (g_x Y (x_p Y (p_pkf Y Y (dF h35) (.same _)) Y)) (a_op (g_x Y (x_p Y (p_move Y Y) Y)) (a_op (g_on Y Y Y (dF h37) Y (x_p Y (u_fa Y Y Tryd.underlying90 Y in_5 nz Y Y (nl (Gutf8_acceptRange.len accept6'19))) Y)) (a_op (g_on Y Y Y (dF h37) Y (x_p Y (u_ld Y Y Tryd.underlying5 Y Y ((Sub.refl _).trans (Gutf8_acceptRange.sub1 accept6'19))) Y)) (a_op (g_on Y Y Y (dF h37) Y (x_p Y (p_move Y Y) Y)) (a_op (g_on Y Y Y (dF h37) Y (x_p Y (p_ixt Y Tryd.underlying9 Y Y Y (lrd_get h38)) Y)) (a_nil)))))))))))))))) ?_
        refine t_on Y Y Y Y (dF h37) Y (PureD.opD (p_u8lt (a := accept6'19.hi_) (b := (lrd s0_0 1)) Y Y Y)) ?_
        refine t_op Y Y (PureD.opD (p_pkf Y Y (dF h37) (.same _))) ?_
        refine t_gho (Gho_st (L := [(0, .t s0_0), (94, .b (decide (accept6'19.hi_ < (lrd s0_0 1))))]) (H := []) (N := 169) Y ⟨TLes.same _, TLes.same _, trivial⟩ trivial) ?_
        exact rfl
     ·refine AW2_cond Y (fun h40 => ?_) (fun h40 => ?_)
      ·replace H := ite_then h40 H
       refine sg [0] Y ?_
       refine rp Y Y (p_asg Y Y) ?_
       refine rz [(2, .b false)] [] Y Y Y ?_
       refine AW2_ret ?_
       have hz := some_elim H
       subst hz
       exact ⟨Y, ⟨res_tmp (.same _), trivial⟩, trivial⟩
      ·replace H := ite_else (ne_true h40) H
       refine as2 [(0, .t s0_0)] [] Y Y Y ?_
       refine AW2_skip ?_
       refine AW2_reg [0, 1, 2] Y ?_
       refine rp Y Y (p_move Y Y) ?_
       refine chkK H fun h41 H => ?_
       refine rp Y Y (u_cutt (a := (2 : Int)) (b := (s0_0.length : Int)) Y Tryd.underlying9 Y (bT_i (show 0 ≤ (2 : Int) ∧ (2 : Int) ≤ (s0_0.length : Int) ∧ (s0_0.length : Int) ≤ (s0_0.length : Int) from ⟨h41.1, h41.2, Int.le_refl _⟩).1 Y) (bT_len _) (show 0 ≤ (2 : Int) ∧ (2 : Int) ≤ (s0_0.length : Int) ∧ (s0_0.length : Int) ≤ (s0_0.length : Int) from ⟨h41.1, h41.2, Int.le_refl _⟩)) ?_
       refine rp Y Y (p_asg Y Y) ?_
       refine rz [(0, .t (cut s0_0 (2 : Int) (s0_0.length : Int)))] [] Y Y Y ?_
       have hz := some_elim H
       subst hz
       exact ⟨Y, Y⟩
    ·replace H := ite_else h34 H
     refine sg [0, 1] Y ?_
     refine rp Y Y (p_ieq Y Y Y) ?_
     refine rp Y Y (p_asg Y Y) ?_
     refine rz [(0, .t s0_0), (6, .q 6 (0)), (75, .i size5'18), (97, .b (decide (size5'18 = (3 : Int))))] [(6, .pure (Gutf8_acceptRange.cs accept6'19))] Y Y Y ?_
     refine AW2_if (p := size5'18 = (3 : Int)) Y (fun h42 => ?_) (fun h42 => ?_)
     ·replace H := ite_then h42 H
      refine AW2_seq ?_
      refine AW2_seq ?_
      refine bindK H fun g'21 h51 H => ?_
      refine AW2_mid (⟨[(0, .t s0_0), (125, .b g'21)], [], 169⟩ : TS) ?_ ?_
      ·clear H
       have H := h51
       clear h51
       refine (Classical.em ((s0_0.length : Int) < (3 : Int))).elim (fun h43 => ?_) (fun h43 => ?_)
       ·replace H := ite_then h43 H
        have hz := some_elim H
        subst hz
        refine AW2_ghoQ ?_
        refine AW2_draw 15 [15, 16, 17, 18, 19, 20, 21, 22, 23, 24, 25, 26] (fun k => ([.t s0_0, .i (s0_0.length : Int), .b (decide ((s0_0.length : Int) < (3 : Int))), .b (decide ((s0_0.length : Int) < (3 : Int))), .p (.tup []), .p (.tup []), .p (.tup []), .p (.tup []), .p (.tup []), .b true, .b true, .p (.tup []), .p (.tup []), .p (.tup []), .p (.tup [])] : List TV).getD k TV.any) (fun k => g_utf8_ValidString_r21.getD k []) [(0, none), (109, some 10), (111, some 12), (113, some 14)] [] (fun k => g_utf8_ValidString_r21c.getD k []) mixed (by kernel_rfl) Y Y (a_op (g_x Y (x_p Y (p_move Y Y) Y)) (a_op (g_x Y (x_p Y (p_lent Y Tryd.underlying9 Y) Y)) (a_op (g_x Y (x_p Y (p_bin Y Y Y Y) Y)) (a_op (g_x Y (x_p Y (p_move Y Y) Y)) (a_op (g_off Y Y Y Y Y (dT h43) Y Y) (a_op (g_off Y Y Y Y Y (dT h43) Y Y) (a_op (g_off Y Y Y Y Y (dT h43) Y Y) (a_op (g_off Y Y Y Y Y (dT h43) Y Y) (a_op (g_off Y Y Y Y Y (dT h43) Y Y) (a_op (g_x Y (x_p Y (p_pkt Y Y (dT h43) (.same _)) Y)) (a_op (g_x Y (x_p Y (p_move Y Y) Y)) (a_op (g_off Y Y Y Y Y Y Y Y) (a_op (g_off Y Y Y Y Y Y Y Y) (a_op (g_off Y Y Y Y Y Y Y Y) (a_op (g_off Y Y Y Y Y Y Y Y) (a_nil)))))))))))))))) ?_
        refine t_off Y Y Y Y Y Y Y ?_
        refine t_op Y Y (PureD.opD (p_pkt Y Y Y (.same _))) ?_
        refine t_op Y Y (PureD.opD (p_move Y Y)) ?_
        refine t_off Y Y Y Y Y Y Y ?_
        refine t_off Y Y Y Y Y Y Y ?_
        refine t_off Y Y Y Y Y Y Y ?_
        refine t_op Y Y (PureD.opD (p_pkt Y Y Y (.same _))) ?_
        refine t_op Y Y (PureD.opD (p_move Y Y)) ?_
        refine t_off Y Y Y Y Y Y Y ?_
        refine t_off Y Y Y Y Y Y Y ?_
        refine t_off Y Y Y Y Y Y Y ?_
        refine t_op Y Y (PureD.opD (p_pkt Y Y Y (.same _))) ?_
        refine t_gho (Gho_st (L := [(0, .t s0_0), (125, .b true)]) (H := []) (N := 169) Y ⟨TLes.same _, TLes.same _, trivial⟩ trivial) ?_
        exact rfl
       ·replace H := ite_else h43 H
        refine chkK H fun h44 H => ?_
        refine (Classical.em ((lrd s0_0 1) < accept6'19.lo_)).elim (fun h45 => ?_) (fun h45 => ?_)
        ·replace H := ite_then h45 H
         have hz := some_elim H
         subst hz
         refine AW2_ghoQ ?_
         refine AW2_draw 15 [15, 16, 17, 18, 19, 20, 21, 22, 23, 24, 25, 26] (fun k => ([.t s0_0, .i (s0_0.length : Int), .b (decide ((s0_0.length : Int) < (3 : Int))), .b (decide ((s0_0.length : Int) < (3 : Int))), .t s0_0, .p (AV.b8 (lrd s0_0 1)), .q 6 (0 + 0), .p (AV.b8 accept6'19.lo_), .b (decide ((lrd s0_0 1) < accept6'19.lo_)), .b (decide ((lrd s0_0 1) < accept6'19.lo_)), .b (decide ((lrd s0_0 1) < accept6'19.lo_)), .p (.tup []), .p (.tup []), .p (.tup []), .p (.tup [])] : List TV).getD k TV.any) (fun k => g_utf8_ValidString_r21.getD k []) [(0, none), (109, some 10), (111, some 12), (113, some 14)] [] (fun k => g_utf8_ValidString_r21c.getD k []) mixed (by kernel_rfl) Y Y (a_op (g_x Y (x_p Y (p_move Y Y) Y)) (a_op (g_x Y (x_p Y (p_lent Y Tryd.underlying9 Y) Y)) (a_op (g_x Y (x_p Y (p_bin Y Y Y Y) Y)) (a_op (g_x Y (x_p Y (p_move Y Y) Y)) (a_op (g_on Y Y Y (dF h43) Y (x_p Y (p_move Y Y) Y)) (a_op (g_on Y Y Y (dF h43) Y (x_p Y (p_ixt Y Tryd.underlying9 Y Y Y (lrd_get h44)) Y)) (a_op (g_on Y Y Y (dF h43) Y (x_p Y (u_fa Y Y Tryd.underlying90 Y in_5 nz Y Y (nl (Gutf8_acceptRange.len accept6'19))) Y)) (a_op (g_on Y Y Y (dF h43) Y (x_p Y (u_ld Y Y Tryd.underlying5 Y Y ((Sub.refl _).trans (Gutf8_acceptRange.sub0 accept6'19))) Y)) (a_op (g_on Y Y Y (dF h43) Y (x_p Y (p_u8lt (a := (lrd s0_0 1)) (b := accept6'19.lo_) Y Y Y) Y)) (a_op (g_x Y (x_p Y (p_pkf Y Y (dF h43) (.same _)) Y)) (a_op (g_x Y (x_p Y (p_move Y Y) Y)) (a_op (g_off Y Y Y Y Y (dT h45) Y Y) (a_op (g_off Y Y Y Y Y (dT h45) Y Y) (a_op (g_off Y Y Y Y Y (dT h45) Y Y) (a_op (g_off Y Y Y Y Y (dT h45) Y Y) (a_nil)))))))))))))))) ?_
         refine t_off Y Y Y Y (dT h45) Y Y ?_
         refine t_op Y Y (PureD.opD (p_pkt Y Y (dT h45) (.same _))) ?_
         refine t_op Y Y (PureD.opD (p_move Y Y)) ?_
         refine t_off Y Y Y Y Y Y Y ?_
         refine t_off Y Y Y Y Y Y Y ?_
         refine t_off Y Y Y Y Y Y Y ?_
         refine t_op Y Y (PureD.opD (p_pkt Y Y Y (.same _))) ?_
         refine t_op Y Y (PureD.opD (p_move Y Y)) ?_
         refine t_off Y Y Y Y Y Y Y ?_
         refine t_off Y Y Y Y Y Y Y ?_
         refine t_off Y Y Y Y Y Y Y ?_
         refine t_op Y Y (PureD.opD (p_pkt Y Y Y (.same _))) ?_
         refine t_gho (Gho_st (L := [(0, .t s0_0), (125, .b true)]) (H := []) (N := 169) Y ⟨TLes.same _, TLes.same _, trivial⟩ trivial) ?_
         exact rfl
        ·replace H := ite_else h45 H
         refine chkK H fun h46 H => ?_
         refine (Classical.em (accept6'19.hi_ < (lrd s0_0 1))).elim (fun h47 => ?_) (fun h47 => ?_)
         ·replace H := ite_then h47 H
          have hz := some_elim H
          subst hz
          refine AW2_ghoQ ?_
          refine AW2_draw 15 [15, 16, 17, 18, 19, 20, 21, 22, 23, 24, 25, 26] (fun k => ([.t s0_0, .i (s0_0.length : Int), .b (decide ((s0_0.length : Int) < (3 : Int))), .b (decide ((s0_0.length : Int) < (3 : Int))), .t s0_0, .p (AV.b8 (lrd s0_0 1)), .q 6 (0 + 0), .p (AV.b8 accept6'19.lo_), .b (decide ((lrd s0_0 1) < accept6'19.lo_)), .b (decide ((lrd s0_0 1) < accept6'19.lo_)), .b (decide ((lrd s0_0 1) < accept6'19.lo_)), .q 6 (0 + 1), .p (AV.b8 accept6'19.hi_), .t s0_0, .p (AV.b8 (lrd s0_0 1))] : List TV).getD k TV.any) (fun k => g_utf8_ValidString_r21.getD k []) [(0, none), (109, some 10), (111, some 12), (113, some 14)] [] (fun k => g_utf8_ValidString_r21c.getD k []) mixed (by kernel_rfl) Y Y (a_op (g_x Y (x_p Y (p_move Y Y) Y)) (a_op (g_x Y (x_p Y (p_lent Y Tryd.underlying9 Y) Y)) (a_op (g_x Y (x_p Y (p_bin Y Y Y Y) Y)) (a_op (g_x Y (x_p Y (p_move Y Y) Y)) (a_op (g_on Y Y Y (dF h43) Y (x_p Y (p_move Y Y) Y)) (a_op (g_on Y Y Y (dF h43) Y (x_p Y (p_ixt Y Tryd.underlying9 Y Y Y (lrd_get h44)) Y)) (a_op (g_on Y Y Y (dF h43) Y (x_p Y (u_fa Y Y Tryd.underlying90 Y in_5 nz Y Y (nl (Gutf8_acceptRange.len accept6'19))) Y)) (a_op (g_on Y Y Y (dF h43) Y (x_p Y (u_ld Y Y Tryd.underlying5 Y Y ((Sub.refl _).trans (Gutf8_acceptRange.sub0 accept6'19))) Y)) (a_op (g_on Y Y Y (dF h43) Y (x_p Y (p_u8lt (a := (lrd s0_0 1)) (b := accept6'19.lo_) Y Y Y) Y)) (a_op (g_x Y (x_p Y (p_pkf Y Y (dF h43) (.same _)) Y)) (a_op (g_x Y (x_p Y (p_move Y Y) Y)) (a_op (g_on Y Y Y (dF h45) Y (x_p Y (u_fa Y Y Tryd.underlying90 Y in_5 nz Y Y (nl (Gutf8_acceptRange.len accept6'19))) Y)) (a_op (g_on Y Y Y (dF h45) Y (x_p Y (u_ld Y Y Tryd.underlying5 Y Y ((Sub.refl _).trans (Gutf8_acceptRange.sub1 accept6'19))) Y)) (a_op (g_on Y Y Y (dF h45) Y (x_p Y (p_move Y Y) Y)) (a_op (g_on Y Y Y (dF h45) Y (x_p Y (p_ixt Y Tryd.underlying9 Y Y Y (lrd_get h46)) Y)) (a_nil)))))))))))))))) ?_
          refine t_on Y Y Y Y (dF h45) Y (PureD.opD (p_u8lt (a := accept6'19.hi_) (b := (lrd s0_0 1)) Y Y Y)) ?_
          refine t_op Y Y (PureD.opD (p_pkf Y Y (dF h45) (.same _))) ?_
          refine t_op Y Y (PureD.opD (p_move Y Y)) ?_
          refine t_off Y Y Y Y (dT h47) Y Y ?_
          refine t_off Y Y Y Y (dT h47) Y Y ?_
          refine t_off Y Y Y Y (dT h47) Y Y ?_
          refine t_op Y Y (PureD.opD (p_pkt Y Y (dT h47) (.same _))) ?_
          refine t_op Y Y (PureD.opD (p_move Y Y)) ?_
          refine t_off Y Y Y Y Y Y Y ?_
          refine t_off Y Y Y Y Y Y Y ?_
          refine t_off Y Y Y Y Y Y Y ?_
          refine t_op Y Y (PureD.opD (p_pkt Y Y Y (.same _))) ?_
          refine t_gho (Gho_st (L := [(0, .t s0_0), (125, .b true)]) (H := []) (N := 169) Y ⟨TLes.same _, TLes.same _, trivial⟩ trivial) ?_
          exact rfl
         ·replace H := ite_else h47 H
          refine chkK H fun h48 H => ?_
          refine (Classical.em ((lrd s0_0 2) < (128 : UInt8))).elim (fun h49 => ?_) (fun h49 => ?_)
          ·replace H := ite_then h49 H
           have hz := some_elim H
           subst hz
           refine AW2_ghoQ ?_
           refine AW2_draw 15 [15, 16, 17, 18, 19, 20, 21, 22, 23, 24, 25, 26] (fun k => ([.t s0_0, .i (s0_0.length : Int), .b (decide ((s0_0.length : Int) < (3 : Int))), .b (decide ((s0_0.length : Int) < (3 : Int))), .t s0_0, .p (AV.b8 (lrd s0_0 1)), .q 6 (0 + 0), .p (AV.b8 accept6'19.lo_), .b (decide ((lrd s0_0 1) < accept6'19.lo_)), .b (decide ((lrd s0_0 1) < accept6'19.lo_)), .b (decide ((lrd s0_0 1) < accept6'19.lo_)), .q 6 (0 + 1), .p (AV.b8 accept6'19.hi_), .t s0_0, .p (AV.b8 (lrd s0_0 1))] : List TV).getD k TV.any) (fun k => g_utf8_ValidString_r21.getD k []) [(0, none), (109, some 10), (111, some 12), (113, some 14)] [] (fun k => g_utf8_ValidString_r21c.getD k []) mixed (by kernel_rfl) Y Y (a_op (g_x Y (x_p Y (p_move Y Y) Y)) (a_op (g_x Y (x_p Y (p_lent Y Tryd.underlying9 Y) Y)) (a_op (g_x Y (x_p Y (p_bin Y Y Y Y) Y)) (a_op (g_x Y (x_p Y (p_move Y Y) Y)) (a_op (g_on Y Y Y (dF h43) Y (x_p Y (p_move Y Y) Y)) (a_op (g_on Y Y Y (dF h43) Y (x_p Y (p_ixt Y Tryd.underlying9 Y Y Y (lrd_get h44)) Y)) (a_op (g_on Y Y Y (dF h43) Y (x_p Y (u_fa Y Y Tryd.underlying90 Y in_5 nz Y Y (nl (Gutf8_acceptRange.len accept6'19))) Y)) (a_op (g_on Y Y Y (dF h43) Y (x_p Y (u_ld Y Y Tryd.underlying5 Y Y ((Sub.refl _).trans (Gutf8_acceptRange.sub0 accept6'19))) Y)) (a_op (g_on Y Y Y (dF h43) Y (x_p Y (p_u8lt (a := (lrd s0_0 1)) (b := accept6'19.lo_) Y Y Y) Y)) (a_op (g_x Y (x_p Y (p_pkf Y Y (dF h43) (.same _)) Y)) (a_op (g_x Y (x_p Y (p_move Y Y) Y)) (a_op (g_on Y Y Y (dF h45) Y (x_p Y (u_fa Y Y Tryd.underlying90 Y in_5 nz Y Y (nl (Gutf8_acceptRange.len accept6'19))) Y)) (a_op (g_on Y Y Y (dF h45) Y (x_p Y (u_ld Y Y Tryd.underlying5 Y Y ((Sub.refl _).trans (Gutf8_acceptRange.sub1 accept6'19))) Y)) (a_op (g_on Y Y Y (dF h45) Y (x_p Y (p_move Y Y) Y)) (a_op (g_on Y Y Y (dF h45) Y (x_p Y (p_ixt Y Tryd.underlying9 Y Y Y (lrd_get h46)) Y)) (a_nil)))))))))))))))) ?_
           refine t_on Y Y Y Y (dF h45) Y (PureD.opD (p_u8lt (a := accept6'19.hi_) (b := (lrd s0_0 1)) Y Y Y)) ?_
           refine t_op Y Y (PureD.opD (p_pkf Y Y (dF h45) (.same _))) ?_
           refine t_op Y Y (PureD.opD (p_move Y Y)) ?_
           refine t_on Y Y Y Y (dF h47) Y (PureD.opD (p_move Y Y)) ?_
           refine t_on Y Y Y Y (dF h47) Y (PureD.opD (p_ixt Y Tryd.underlying9 Y Y Y (lrd_get h48))) ?_
           refine t_on Y Y Y Y (dF h47) Y (PureD.opD (p_u8lt (a := (lrd s0_0 2)) (b := (128 : UInt8)) Y Y Y)) ?_
           refine t_op Y Y (PureD.opD (p_pkf Y Y (dF h47) (.same _))) ?_
           refine t_op Y Y (PureD.opD (p_move Y Y)) ?_
           refine t_off Y Y Y Y (dT h49) Y Y ?_
           refine t_off Y Y Y Y (dT h49) Y Y ?_
           refine t_off Y Y Y Y (dT h49) Y Y ?_
           refine t_op Y Y (PureD.opD (p_pkt Y Y (dT h49) (.same _))) ?_
           refine t_gho (Gho_st (L := [(0, .t s0_0), (125, .b true)]) (H := []) (N := 169) Y ⟨TLes.same _, TLes.same _, trivial⟩ trivial) ?_
           exact rfl
          ·replace H := ite_else h49 H
           refine chkK H fun h50 H => ?_
           have hz := some_elim H
           subst hz
           refine AW2_ghoQ ?_
           refine AW2_draw 15 [15, 16, 17, 18, 19, 20, 21, 22, 23, 24, 25, 26] (fun k => ([.t s0_0, .i (s0_0.length : Int), .b (decide ((s0_0.length : Int) < (3 : Int))), .b (decide ((s0_0.length : Int) < (3 : Int))), .t s0_0, .p (AV.b8 (lrd s0_0 1)), .q 6 (0 + 0), .p (AV.b8 accept6'19.lo_), .b (decide ((lrd s0_0 1) < accept6'19.lo_)), .b (decide ((lrd s0_0 1) < accept6'19.lo_)), .b (decide ((lrd s0_0 1) < accept6'19.lo_)), .q 6 (0 + 1), .p (AV.b8 accept6'19.hi_), .t s0_0, .p (AV.b8 (lrd s0_0 1))] : List TV).getD k TV.any) (fun k => g_utf8_ValidString_r21.getD k []) [(0, none), (109, some 10), (111, some 12), (113, some 14)] [] (fun k => g_utf8_ValidString_r21c.getD k []) mixed (by kernel_rfl) Y Y (a_op (g_x Y (x_p Y (p_move Y Y) Y)) (a_op (g_x Y (x_p Y (p_lent Y Tryd.underlying9 Y) Y)) (a_op (g_x Y (x_p Y (p_bin Y Y Y Y) Y)) (a_op (g_x Y (x_p Y (p_move Y Y) Y)) (a_op (g_on Y Y Y (dF h43) Y (x_p Y (p_move Y Y) Y)) (a_op (g_on Y Y Y (dF h43) Y (x_p Y (p_ixt Y Tryd.underlying9 Y Y Y (lrd_get h44)) Y)) (a_op (g_on Y Y Y (dF h43) Y (x_p Y (u_fa Y Y Tryd.underlying90 Y in_5 nz Y Y (nl (Gutf8_acceptRange.len accept6'19))) Y)) (a_op (g_on Y Y Y (dF h43) Y (x_p Y (u_ld Y Y Tryd.underlying5 Y Y ((Sub.refl _).trans (Gutf8_acceptRange.sub0 accept6'19))) Y)) (a_op (g_on Y Y Y (dF h43) Y (x_p Y (p_u8lt (a := (lrd s0_0 1)) (b := accept6'19.lo_) Y Y Y) Y)) (a_op (g_x Y (x_p Y (p_pkf Y Y (dF h43) (.same _)) Y)) (a_op (g_x Y (x_p Y (p_move Y Y) Y)) (a_op (g_on Y Y Y (dF h45) Y (x_p Y (u_fa Y Y Tryd.underlying90 Y in_5 nz Y Y (nl (Gutf8_acceptRange.len accept6'19))) Y)) (a_op (g_on Y Y Y (dF h45) Y (x_p Y (u_ld Y Y Tryd.underlying5 Y Y ((Sub.refl _).trans (Gutf8_acceptRange.sub1 accept6'19))) Y)) (a_op (g_on Y Y Y (dF h45) Y (x_p Y (p_move Y Y) Y)) (a_op (g_on Y Y Y (dF h45) Y (x_p Y (p_ixt Y Tryd.underlying9 Y Y Y (lrd_get h46)) Y)) (a_nil)))))))))))))))) ?_
           refine t_on Y Y Y Y (dF h45) Y (PureD.opD (p_u8lt (a := accept6'19.hi_) (b := (lrd s0_0 1)) Y Y Y)) ?_
           refine t_op Y Y (PureD.opD (p_pkf Y Y (dF h45) (.same _))) ?_
           refine t_op Y Y (PureD.opD (p_move Y Y)) ?_
           refine t_on Y Y Y Y (dF h47) Y (PureD.opD (p_move Y Y)) ?_
           refine t_on Y Y Y Y (dF h47) Y (PureD.opD (p_ixt Y Tryd.underlying9 Y Y Y (lrd_get h48))) ?_
           refine t_on Y Y Y Y (dF h47) Y (PureD.opD (p_u8lt (a := (lrd s0_0 2)) (b := (128 : UInt8)) Y Y Y)) ?_
           refine t_op Y Y (PureD.opD (p_pkf Y Y (dF h47) (.same _))) ?_
           refine t_op Y Y (PureD.opD (p_move Y Y)) ?_
           refine t_on Y Y Y Y (dF h49) Y (PureD.opD (p_move Y Y)) ?_
           refine t_on Y Y Y Y (dF h49) Y (PureD.opD (p_ixt Y Tryd.underlying9 Y Y Y (lrd_get h50))) ?_
           refine t_on Y Y Y Y (dF h49) Y (PureD.opD (p_u8lt (a := (191 : UInt8)) (b := (lrd s0_0 2)) Y Y Y)) ?_
           refine t_op Y Y (PureD.opD (p_pkf Y Y (dF h49) (.same _))) ?_
           refine t_gho (Gho_st (L := [(0, .t s0_0), (125, .b (decide ((191 : UInt8) < (lrd s0_0 2))))]) (H := []) (N := 169) Y ⟨TLes.same _, TLes.same _, trivial⟩ trivial) ?_
           exact rfl
      ·refine AW2_cond Y (fun h52 => ?_) (fun h52 => ?_)
       ·replace H := ite_then h52 H
        refine sg [0] Y ?_
        refine rp Y Y (p_asg Y Y) ?_
        refine rz [(2, .b false)] [] Y Y Y ?_
        refine AW2_ret ?_
        have hz := some_elim H
        subst hz
        exact ⟨Y, ⟨res_tmp (.same _), trivial⟩, trivial⟩
       ·replace H := ite_else (ne_true h52) H
        refine as2 [(0, .t s0_0)] [] Y Y Y ?_
        refine AW2_skip ?_
        refine AW2_reg [0, 1, 2] Y ?_
        refine rp Y Y (p_move Y Y) ?_
        refine chkK H fun h53 H => ?_
        refine rp Y Y (u_cutt (a := (3 : Int)) (b := (s0_0.length : Int)) Y Tryd.underlying9 Y (bT_i (show 0 ≤ (3 : Int) ∧ (3 : Int) ≤ (s0_0.length : Int) ∧ (s0_0.length : Int) ≤ (s0_0.length : Int) from ⟨h53.1, h53.2, Int.le_refl _⟩).1 Y) (bT_len _) (show 0 ≤ (3 : Int) ∧ (3 : Int) ≤ (s0_0.length : Int) ∧ (s0_0.length : Int) ≤ (s0_0.length : Int) from ⟨h53.1, h53.2, Int.le_refl _⟩)) ?_
        refine rp Y Y (p_asg Y Y) ?_
        refine rz [(0, .t (cut s0_0 (3 : Int) (s0_0.length : Int)))] [] Y Y Y ?_
        have hz := some_elim H
        subst hz
        exact ⟨Y, Y⟩
     ·replace H := ite_else h42 H
      refine sg [0, 1] Y ?_
      refine rp Y Y (p_ieq Y Y Y) ?_
      refine rp Y Y (p_asg Y Y) ?_
      refine rz [(0, .t s0_0), (6, .q 6 (0)), (128, .b (decide (size5'18 = (4 : Int))))] [(6, .pure (Gutf8_acceptRange.cs accept6'19))] Y Y Y ?_
      refine AW2_if (p := size5'18 = (4 : Int)) Y (fun h54 => ?_) (fun h54 => ?_)
      ·replace H := ite_then h54 H
       refine AW2_seq ?_
       refine AW2_seq ?_
       refine bindK H fun g'22 h67 H => ?_
       refine AW2_mid (⟨[(0, .t s0_0), (166, .b g'22)], [], 169⟩ : TS) ?_ ?_
       ·clear H
        have H := h67
        clear h67
        refine (Classical.em ((s0_0.length : Int) < (4 : Int))).elim (fun h55 => ?_) (fun h55 => ?_)
        ·replace H := ite_then h55 H
         have hz := some_elim H
         subst hz
         refine AW2_ghoQ ?_
         refine AW2_draw 15 [15, 16, 17, 18, 19, 20, 21, 22, 23, 24, 25, 26, 27, 28, 29, 30, 31, 32, 33, 34, 35, 36] (fun k => ([.t s0_0, .i (s0_0.length : Int), .b (decide ((s0_0.length : Int) < (4 : Int))), .b (decide ((s0_0.length : Int) < (4 : Int))), .p (.tup []), .p (.tup []), .p (.tup []), .p (.tup []), .p (.tup []), .b true, .b true, .p (.tup []), .p (.tup []), .p (.tup []), .p (.tup [])] : List TV).getD k TV.any) (fun k => g_utf8_ValidString_r25.getD k []) [(0, none), (140, some 10), (142, some 12), (144, some 14)] [] (fun k => g_utf8_ValidString_r25c.getD k []) mixed (by kernel_rfl) Y Y (a_op (g_x Y (x_p Y (p_move Y Y) Y)) (a_op (g_x Y (x_p Y (p_lent Y Tryd.underlying9 Y) Y)) (a_op (g_x Y (x_p Y (p_bin Y Y Y Y) Y)) (a_op (g_x Y (x_p Y (p_move Y Y) Y)) (a_op (g_off Y Y Y Y Y (dT h55) Y Y) (a_op (g_off Y Y Y Y Y (dT h55) Y Y) (a_op (g_off Y Y Y Y Y (dT h55) Y Y) (a_op (g_off Y Y Y Y Y (dT h55) Y Y) (a_op (g_off Y Y Y Y Y (dT h55) Y Y) (a_op (g_x Y (x_p Y (p_pkt Y Y (dT h55) (.same _)) Y)) (a_op (g_x Y (x_p Y (p_move Y Y) Y)) (a_op (g_off Y Y Y Y Y Y Y Y) (a_op (g_off Y Y Y Y Y Y Y Y) (a_op (g_off Y Y Y Y Y Y Y Y) (a_op (g_off Y Y Y Y Y Y Y Y) (a_nil)))))))))))))))) ?_
         refine t_off Y Y Y Y Y Y Y ?_
         refine t_op Y Y (PureD.opD (p_pkt Y Y Y (.same _))) ?_
         refine t_op Y Y (PureD.opD (p_move Y Y)) ?_
         refine t_off Y Y Y Y Y Y Y ?_
         refine t_off Y Y Y Y Y Y Y ?_
         refine t_off Y Y Y Y Y Y Y ?_
         refine t_op Y Y (PureD.opD (p_pkt Y Y Y (.same _))) ?_
         refine t_op Y Y (PureD.opD (p_move Y Y)) ?_
         refine t_off Y Y Y Y Y Y Y ?_
         refine t_off Y Y Y Y Y Y Y ?_
         refine t_off Y Y Y Y Y Y Y ?_
         refine t_op Y Y (PureD.opD (p_pkt Y Y Y (.same _))) ?_
         refine t_op Y Y (PureD.opD (p_move Y Y)) ?_
         refine t_off Y Y Y Y Y Y Y ?_
         refine t_off Y Y Y Y Y Y Y ?_
         refine t_off Y Y Y Y Y Y Y ?_
         refine t_op Y Y (PureD.opD (p_pkt Y Y Y (.same _))) ?_
         refine t_op Y Y (PureD.opD (p_move Y Y)) ?_
         refine t_off Y Y Y Y Y Y Y ?_
         refine t_off Y Y Y Y Y Y Y ?_
         refine t_off Y Y Y Y Y Y Y ?_
         refine t_op Y Y (PureD.opD (p_pkt Y Y Y (.same _))) ?_
         refine t_gho (Gho_st (L := [(0, .t s0_0), (166, .b true)]) (H := []) (N := 169) Y ⟨TLes.same _, TLes.same _, trivial⟩ trivial) ?_
         exact rfl
        ·replace H := ite_else h55 H
         refine chkK H fun h56 H => ?_
         refine (Classical.em ((lrd s0_0 1) < accept6'19.lo_)).elim (fun h57 => ?_) (fun h57 => ?_)
         ·replace H := ite_then h57 H
          have hz := some_elim H
          subst hz
          refine AW2_ghoQ ?_
          refine AW2_draw 15 [15, 16, 17, 18, 19, 20, 21, 22, 23, 24, 25, 26, 27, 28, 29, 30, 31, 32, 33, 34, 35, 36] (fun k => ([.t s0_0, .i (s0_0.length : Int), .b (decide ((s0_0.length : Int) < (4 : Int))), .b (decide ((s0_0.length : Int) < (4 : Int))), .t s0_0, .p (AV.b8 (lrd s0_0 1)), .q 6 (0 + 0), .p (AV.b8 accept6'19.lo_), .b (decide ((lrd s0_0 1) < accept6'19.lo_)), .b (decide ((lrd s0_0 1) < accept6'19.lo_)), .b (decide ((lrd s0_0 1) < accept6'19.lo_)), .p (.tup []), .p (.tup []), .p (.tup []), .p (.tup [])] : List TV).getD k TV.any) (fun k => g_utf8_ValidString_r25.getD k []) [(0, none), (140, some 10), (142, some 12), (144, some 14)] [] (fun k => g_utf8_ValidString_r25c.getD k []) mixed (by kernel_rfl) Y Y (a_op (g_x Y (x_p Y (p_move Y Y) Y)) (a_op (g_x Y (x_p Y (p_lent Y Tryd.underlying9 Y) Y)) (a_op (g_x Y (x_p Y (p_bin Y Y Y Y) Y)) (a_op (g_x Y (x_p Y (p_move Y Y) Y)) (a_op (g_on Y Y Y (dF h55) Y (x_p Y (p_move Y Y) Y)) (a_op (g_on Y Y Y (dF h55) Y (x_p Y (p_ixt Y Tryd.underlying9 Y Y Y (lrd_get h56)) Y)) (a_op (g_on Y Y Y (dF h55) Y (x_p Y (u_fa Y Y Tryd.underlying90 Y in_5 nz Y Y (nl (Gutf8_acceptRange.len accept6'19))) Y)) (a_op (g_on Y Y Y (dF h55) Y (x_p Y (u_ld Y Y Tryd.underlying5 Y Y ((Sub.refl _).trans (Gutf8_acceptRange.sub0 accept6'19))) Y)) (a_op (g_on Y Y Y (dF h55) Y (x_p Y (p_u8lt (a := (lrd s0_0 1)) (b := accept6'19.lo_) Y Y Y) Y)) (a_op (g_x Y (x_p Y (p_pkf Y Y (dF h55) (.same _)) Y)) (a_op (g_x Y (x_p Y (p_move Y Y) Y)) (a_op (g_off Y Y Y Y Y (dT h57) Y Y) (a_op (g_off Y Y Y Y Y (dT h57) Y Y) (a_op (g_off Y Y Y Y Y (dT h57) Y Y) (a_op (g_off Y Y Y Y Y (dT h57) Y Y) (a_nil)))))))))))))))) ?_
          refine t_off Y Y Y Y (dT h57) Y Y ?_
          refine t_op Y Y (PureD.opD (p_pkt Y Y (dT h57) (.same _))) ?_
          refine t_op Y Y (PureD.opD (p_move Y Y)) ?_
          refine t_off Y Y Y Y Y Y Y ?_
          refine t_off Y Y Y Y Y Y Y ?_
          refine t_off Y Y Y Y Y Y Y ?_
          refine t_op Y Y (PureD.opD (p_pkt Y Y Y (.same _))) ?_
          refine t_op Y Y (PureD.opD (p_move Y Y)) ?_
          refine t_off Y Y Y Y Y Y Y ?_
          refine t_off Y Y Y Y Y Y Y ?_
          refine t_off Y Y Y Y Y Y Y ?_
          refine t_op Y Y (PureD.opD (p_pkt Y Y Y (.same _))) ?_
          refine t_op Y Y (PureD.opD (p_move Y Y)) ?_
          refine t_off Y Y Y Y Y Y Y ?_
          refine t_off Y Y Y Y Y Y Y ?_
          refine t_off Y Y Y Y Y Y Y ?_
          refine t_op Y Y (PureD.opD (p_pkt Y Y Y (.same _))) ?_
          refine t_op Y Y (PureD.opD (p_move Y Y)) ?_
          refine t_off Y Y Y Y Y Y Y ?_
          refine t_off Y Y Y Y Y Y Y ?_
          refine t_off Y Y Y Y Y Y Y ?_
          refine t_op Y Y (PureD.opD (p_pkt Y Y Y (.same _))) ?_
          refine t_gho (Gho_st (L := [(0, .t s0_0), (166, .b true)]) (H := []) (N := 169) Y ⟨TLes.same _, TLes.same _, trivial⟩ trivial) ?_
          exact rfl
         ·replace H := ite_else h57 H
          refine chkK H fun h58 H => ?_
          refine (Classical.em (accept6'19.hi_ < (lrd s0_0 1))).elim (fun h59 => ?_) (fun h59 => ?_)
          ·replace H := ite_then h59 H
           have hz := some_elim H
           subst hz
           refine AW2_ghoQ ?_
           refine AW2_draw 15 [15, 16, 17, 18, 19, 20, 21, 22, 23, 24, 25, 26, 27, 28, 29, 30, 31, 32, 33, 34, 35, 36] (fun k => ([.t s0_0, .i (s0_0.length : Int), .b (decide ((s0_0.length : Int) < (4 : Int))), .b (decide ((s0_0.length : Int) < (4 : Int))), .t s0_0, .p (AV.b8 (lrd s0_0 1)), .q 6 (0 + 0), .p (AV.b8 accept6'19.lo_), .b (decide ((lrd s0_0 1) < accept6'19.lo_)), .b (decide ((lrd s0_0 1) < accept6'19.lo_)), .b (decide ((lrd s0_0 1) < accept6'19.lo_)), .q 6 (0 + 1), .p (AV.b8 accept6'19.hi_), .t s0_0, .p (AV.b8 (lrd s0_0 1))] : List TV).getD k TV.any) (fun k => g_utf8_ValidString_r25.getD k []) [(0, none), (140, some 10), (142, some 12), (144, some 14)] [] (fun k => g_utf8_ValidString_r25c.getD k []) mixed (by kernel_rfl) Y Y (a_op (g_x Y (x_p Y (p_move Y Y) Y)) (a_op (g_x Y (x_p Y (p_lent Y Tryd.underlying9 Y) Y)) (a_op (g_x Y (x_p Y (p_bin Y Y Y Y) Y)) (a_op (g_x Y (x_p Y (p_move Y Y) Y)) (a_op (g_on Y Y Y (dF h55) Y (x_p Y (p_move Y Y) Y)) (a_op (g_on Y Y Y (dF h55) Y (x_p Y (p_ixt Y Tryd.underlying9 Y Y Y (lrd_get h56)) Y)) (a_op (g_on Y Y Y (dF h55) Y (x_p Y (u_fa Y Y Tryd.underlying90 Y in_5 nz Y Y (nl (Gutf8_acceptRange.len accept6'19))) Y)) (a_op (g_on Y Y Y (dF h55) Y (x_p Y (u_ld Y Y Tryd.underlying5 Y Y ((Sub.refl _).trans (Gutf8_acceptRange.sub0 accept6'19))) Y)) (a_op (g_on Y Y Y (dF h55) Y (x_p Y (p_u8lt (a := (lrd s0_0 1)) (b := accept6'19.lo_) Y Y Y) Y)) (a_op (g_x Y (x_p Y (p_pkf Y Y (dF h55) (.same _)) Y)) (a_op (g_x Y (x_p Y (p_move Y Y) Y)) (a_op (g_on Y Y Y (dF h57) Y (x_p Y (u_fa Y Y Tryd.underlying90 Y in_5 nz Y Y (nl (Gutf8_acceptRange.len accept6'19))) Y)) (a_op (g_on Y Y Y (dF h57) Y (x_p Y (u_ld Y Y Tryd.underlying5 Y Y ((Sub.refl _).trans (Gutf8_acceptRange.sub1 accept6'19))) Y)) (a_op (g_on Y Y Y (dF h57) Y (x_p Y (p_move Y Y) Y)) (a_op (g_on Y Y Y (dF h57) Y (x_p Y (p_ixt Y Tryd.underlying9 Y Y Y (lrd_get h58)) Y)) (a_nil)))))))))))))))) ?_
           refine t_on Y Y Y Y (dF h57) Y (PureD.opD (p_u8lt (a := accept6'19.hi_) (b := (lrd s0_0 1)) Y Y Y)) ?_
           refine t_op Y Y (PureD.opD (p_pkf Y Y (dF h57) (.same _))) ?_
           refine t_op Y Y (PureD.opD (p_move Y Y)) ?_
           refine t_off Y Y Y Y (dT h59) Y Y ?_
           refine t_off Y Y Y Y (dT h59) Y Y ?_
           refine t_off Y Y Y Y (dT h59) Y Y ?_
           refine t_op Y Y (PureD.opD (p_pkt Y Y (dT h59) (.same _))) ?_
           refine t_op Y Y (PureD.opD (p_move Y Y)) ?_
           refine t_off Y Y Y Y Y Y Y ?_
           refine t_off Y Y Y Y Y Y Y ?_
           refine t_off Y Y Y Y Y Y Y ?_
           refine t_op Y Y (PureD.opD (p_pkt Y Y Y (.same _))) ?_
           refine t_op Y Y (PureD.opD (p_move Y Y)) ?_
           refine t_off Y Y Y Y Y Y Y ?_
           refine t_off Y Y Y Y Y Y Y ?_
           refine t_off Y Y Y Y Y Y Y ?_
           refine t_op Y Y (PureD.opD (p_pkt Y Y Y (.same _))) ?_
           refine t_op Y Y (PureD.opD (p_move Y Y)) ?_
           refine t_off Y Y Y Y Y Y Y ?_
           refine t_off Y Y Y Y Y Y Y ?_
           refine t_off Y Y Y Y Y Y Y ?_
           refine t_op Y Y (PureD.opD (p_pkt Y Y Y (.same _))) ?_
           refine t_gho (Gho_st (L := [(0, .t s0_0), (166, .b true)]) (H := []) (N := 169) Y ⟨TLes.same _, TLes.same _, trivial⟩ trivial) ?_
           exact rfl
          ·replace H := ite_else h59 H
           refine chkK H fun h60 H => ?_
           refine (Classical.em ((lrd s0_0 2) < (128 : UInt8))).elim (fun h61 => ?_) (fun h61 => ?_)
           ·replace H := ite_then h61 H
            have hz := some_elim H
            subst hz
            refine AW2_ghoQ ?_
            refine AW2_draw 15 [15, 16, 17, 18, 19, 20, 21, 22, 23, 24, 25, 26, 27, 28, 29, 30, 31, 32, 33, 34, 35, 36] (fun k => ([.t s0_0, .i (s0_0.length : Int), .b (decide ((s0_0.length : Int) < (4 : Int))), .b (decide ((s0_0.length : Int) < (4 : Int))), .t s0_0, .p (AV.b8 (lrd s0_0 1)), .q 6 (0 + 0), .p (AV.b8 accept6'19.lo_), .b (decide ((lrd s0_0 1) < accept6'19.lo_)), .b (decide ((lrd s0_0 1) < accept6'19.lo_)), .b (decide ((lrd s0_0 1) < accept6'19.lo_)), .q 6 (0 + 1), .p (AV.b8 accept6'19.hi_), .t s0_0, .p (AV.b8 (lrd s0_0 1))] : List TV).getD k TV.any) (fun k => g_utf8_ValidString_r25.getD k []) [(0, none), (140, some 10), (142, some 12), (144, some 14)] [] (fun k => g_utf8_ValidString_r25c.getD k []) mixed (by kernel_rfl) Y Y (a_op (g_x Y (x_p Y (p_move Y Y) Y)) (a_op (g_x Y (x_p Y (p_lent Y Tryd.underlying9 Y) Y)) (a_op (g_x Y (x_p Y (p_bin Y Y Y Y) Y)) (a_op (g_x Y (x_p Y (p_move Y Y) Y)) (a_op (g_on Y Y Y (dF h55) Y (x_p Y (p_move Y Y) Y)) (a_op (g_on Y Y Y (dF h55) Y (x_p Y (p_ixt Y Tryd.underlying9 Y Y Y (lrd_get h56)) Y)) (a_op (g_on Y Y Y (dF h55) Y (x_p Y (u_fa Y Y Tryd.underlying90 Y in_5 nz Y Y (nl (Gutf8_acceptRange.len accept6'19))) Y)) (a_op (g_on Y Y Y (dF h55) Y (x_p Y (u_ld Y Y Tryd.underlying5 Y Y ((Sub.refl _).trans (Gutf8_acceptRange.sub0 accept6'19))) Y)) (a_op (g_on Y Y Y (dF h55) Y (x_p Y (p_u8lt (a := (lrd s0_0 1)) (b := accept6'19.lo_) Y Y Y) Y)) (a_op (g_x Y (x_p Y (p_pkf Y Y (dF h55) (.same _)) Y)) (a_op (g_x Y (x_p Y (p_move Y Y) Y)) (a_op (g_on Y Y Y (dF h57) Y (x_p Y (u_fa Y Y Tryd.underlying90 Y in_5 nz Y Y (nl (Gutf8_acceptRange.len accept6'19))) Y)) (a_op (g_on Y Y Y (dF h57) Y (x_p Y (u_ld Y Y Tryd.underlying5 Y Y ((Sub.refl _).trans (Gutf8_acceptRange.sub1 accept6'19))) Y)) (a_op (g_on Y Y Y (dF h57) Y (x_p Y (p_move Y Y) Y)) (a_op (g_on Y Y Y (dF h57) Y (x_p Y (p_ixt Y Tryd.underlying9 Y Y Y (lrd_get h58)) Y)) (a_nil)))))))))))))))) ?_
            refine t_on Y Y Y Y (dF h57) Y (PureD.opD (p_u8lt (a := accept6'19.hi_) (b := (lrd s0_0 1)) Y Y Y)) ?_
            refine t_op Y Y (PureD.opD (p_pkf Y Y (dF h57) (.same _))) ?_
            refine t_op Y Y (PureD.opD (p_move Y Y)) ?_
            refine t_on Y Y Y Y (dF h59) Y (PureD.opD (p_move Y Y)) ?_
            refine t_on Y Y Y Y (dF h59) Y (PureD.opD (p_ixt Y Tryd.underlying9 Y Y Y (lrd_get h60))) ?_
            refine t_on Y Y Y Y (dF h59) Y (PureD.opD (p_u8lt (a := (lrd s0_0 2)) (b := (128 : UInt8)) Y Y Y)) ?_
            refine t_op Y Y (PureD.opD (p_pkf Y Y (dF h59) (.same _))) ?_
            refine t_op Y Y (PureD.opD (p_move Y Y)) ?_
            refine t_off Y Y Y Y (dT h61) Y Y ?_
            refine t_off Y Y Y Y (dT h61) Y Y ?_
            refine t_off Y Y Y Y (dT h61) Y Y ?_
            refine t_op Y Y (PureD.opD (p_pkt Y Y (dT h61) (.same _))) ?_
            refine t_op Y Y (PureD.opD (p_move Y Y)) ?_
            refine t_off Y Y Y Y Y Y Y ?_
            refine t_off Y Y Y Y Y Y Y ?_
            refine t_off Y Y Y Y Y Y Y ?_
            refine t_op Y Y (PureD.opD (p_pkt Y Y Y (.same _))) ?_
            refine t_op Y Y (PureD.opD (p_move Y Y)) ?_
            refine t_off Y Y Y Y Y Y Y ?_
            refine t_off Y Y Y Y Y Y Y ?_
            refine t_off Y Y Y Y Y Y Y ?_
            refine t_op Y Y (PureD.opD (p_pkt Y Y Y (.same _))) ?_
            refine t_gho (Gho_st (L := [(0, .t s0_0), (166, .b true)]) (H := []) (N := 169) Y ⟨TLes.same _, TLes.same _, trivial⟩ trivial) ?_
            exact rfl
           ·replace H := ite_else h61 H
            refine chkK H fun h62 H => ?_
            refine (Classical.em ((191 : UInt8) < (lrd s0_0 2))).elim (fun h63 => ?_) (fun h63 => ?_)
            ·replace H := ite_then h63 H
             have hz := some_elim H
             subst hz
             refine AW2_ghoQ ?_
             refine AW2_draw 15 [15, 16, 17, 18, 19, 20, 21, 22, 23, 24, 25, 26, 27, 28, 29, 30, 31, 32, 33, 34, 35, 36] (fun k => ([.t s0_0, .i (s0_0.length : Int), .b (decide ((s0_0.length : Int) < (4 : Int))), .b (decide ((s0_0.length : Int) < (4 : Int))), .t s0_0, .p (AV.b8 (lrd s0_0 1)), .q 6 (0 + 0), .p (AV.b8 accept6'19.lo_), .b (decide ((lrd s0_0 1) < accept6'19.lo_)), .b (decide ((lrd s0_0 1) < accept6'19.lo_)), .b (decide ((lrd s0_0 1) < accept6'19.lo_)), .q 6 (0 + 1), .p (AV.b8 accept6'19.hi_), .t s0_0, .p (AV.b8 (lrd s0_0 1))] : List TV).getD k TV.any) (fun k => g_utf8_ValidString_r25.getD k []) [(0, none), (140, some 10), (142, some 12), (144, some 14)] [] (fun k => g_utf8_ValidString_r25c.getD k []) mixed (by kernel_rfl) Y Y (a_op (g_x Y (x_p Y (p_move Y Y) Y)) (a_op (g_x Y (x_p Y (p_lent Y Tryd.underlying9 Y) Y)) (a_op (g_x Y (x_p Y (p_bin Y Y Y Y) Y)) (a_op (g_x Y (x_p Y (p_move Y Y) Y)) (a_op (g_on Y Y Y (dF h55) Y (x_p Y (p_move Y Y) Y)) (a_op (g_on Y Y Y (dF h55) Y (x_p Y (p_ixt Y Tryd.underlying9 Y Y Y (lrd_get h56)) Y)) (a_op (g_on Y Y Y (dF h55) Y (x_p Y (u_fa Y Y Tryd.underlying90 Y in_5 nz Y Y (nl (Gutf8_acceptRange.len accept6'19))) Y)) (a_op (g_on Y Y Y (dF h55) Y (x_p Y (u_ld Y Y Tryd.underlying5 Y Y ((Sub.refl _).trans (Gutf8_acceptRange.sub0 accept6'19))) Y)) (a_op (g_on Y Y Y (dF h55) Y (x_p Y (p_u8lt (a := (lrd s0_0 1)) (b := accept6'19.lo_) Y Y Y) Y)) (a_op (g_x Y (x_p Y (p_pkf Y Y (dF h55) (.same _)) Y)) (a_op (g_x Y (x_p Y (p_move Y Y) Y)) (a_op (g_on Y Y Y (dF h57) Y (x_p Y (u_fa Y Y Tryd.underlying90 Y in_5 nz Y Y (nl (Gutf8_acceptRange.len accept6'19))) Y)) (a_op (g_on Y Y Y (dF h57) Y (x_p Y (u_ld Y Y Tryd.underlying5 Y Y ((Sub.refl _).trans (Gutf8_acceptRange.sub1 accept6'19))) Y)) (a_op (g_on Y Y Y (dF h57) Y (x_p Y (p_move Y Y) Y)) (a_op (g_on Y Y Y (dF h57) Y (x_p Y (p_ixt Y Tryd.underlying9 Y Y Y (lrd_get h58)) Y)) (a_nil)))))))))))))))) ?_
             refine t_on Y Y Y Y (dF h57) Y (PureD.opD (p_u8lt (a := accept6'19.hi_) (b := (lrd s0_0 1)) Y Y Y)) ?_
             refine t_op Y Y (PureD.opD (p_pkf Y Y (dF h57) (.same _))) ?_
             refine t_op Y Y (PureD.opD (p_move Y Y)) ?_
             refine t_on Y Y Y Y (dF h59) Y (PureD.opD (p_move Y Y)) ?_
             refine t_on Y Y Y Y (dF h59) Y (PureD.opD (p_ixt Y Tryd.underlying9 Y Y Y (lrd_get h60))) ?_
             refine t_on Y Y Y Y (dF h59) Y (PureD.opD (p_u8lt (a := (lrd s0_0 2)) (b := (128 : UInt8)) Y Y Y)) ?_
             refine t_op Y Y (PureD.opD (p_pkf Y Y (dF h59) (.same _))) ?_
             refine t_op Y Y (PureD.opD (p_move Y Y)) ?_
             refine t_on Y Y Y Y (dF h61) Y (PureD.opD (p_move Y Y)) ?_
             refine t_on Y Y Y Y (dF h61) Y (PureD.opD (p_ixt Y Tryd.underlying9 Y Y Y (lrd_get h62))) ?_
             refine t_on Y Y Y Y (dF h61) Y (PureD.opD (p_u8lt (a := (191 : UInt8)) (b := (lrd s0_0 2)) Y Y Y)) ?_
             refine t_op Y Y (PureD.opD (p_pkf Y Y (dF h61) (.same _))) ?_
             refine t_op Y Y (PureD.opD (p_move Y Y)) ?_
             refine t_off Y Y Y Y (dT h63) Y Y ?_
             refine t_off Y Y Y Y (dT h63) Y Y ?_
             refine t_off Y Y Y Y (dT h63) Y Y ?_
             refine t_op Y Y (PureD.opD (p_pkt Y Y (dT h63) (.same _))) ?_
             refine t_op Y Y (PureD.opD (p_move Y Y)) ?_
             refine t_off Y Y Y Y Y Y Y ?_
             refine t_off Y Y Y Y Y Y Y ?_
             refine t_off Y Y Y Y Y Y Y ?_
             refine t_op Y Y (PureD.opD (p_pkt Y Y Y (.same _))) ?_
             refine t_gho (Gho_st (L := [(0, .t s0_0), (166, .b true)]) (H := []) (N := 169) Y ⟨TLes.same _, TLes.same _, trivial⟩ trivial) ?_
             exact rfl
            ·replace H := ite_else h63 H
             refine chkK H fun h64 H => ?_
             refine (Classical.em ((lrd s0_0 3) < (128 : UInt8))).elim (fun h65 => ?_) (fun h65 => ?_)
             ·replace H := ite_then h65 H
              have hz := some_elim H
              subst hz
              refine AW2_ghoQ ?_
              refine AW2_draw 15 [15, 16, 17, 18, 19, 20, 21, 22, 23, 24, 25, 26, 27, 28, 29, 30, 31, 32, 33, 34, 35, 36] (fun k => ([.t s0_0, .i (s0_0.length : Int), .b (decide ((s0_0.length : Int) < (4 : Int))), .b (decide ((s0_0.length : Int) < (4 : Int))), .t s0_0, .p (AV.b8 (lrd s0_0 1)), .q 6 (0 + 0), .p (AV.b8 accept6'19.lo_), .b (decide ((lrd s0_0 1) < accept6'19.lo_)), .b (decide ((lrd s0_0 1) < accept6'19.lo_)), .b (decide ((lrd s0_0 1) < accept6'19.lo_)), .q 6 (0 + 1), .p (AV.b8 accept6'19.hi_), .t s0_0, .p (AV.b8 (lrd s0_0 1))] : List TV).getD k TV.any) (fun k => g_utf8_ValidString_r25.getD k []) [(0, none), (140, some 10), (142, some 12), (144, some 14)] [] (fun k => g_utf8_ValidString_r25c.getD k []) mixed (by kernel_rfl) Y Y (a_op (g_x Y (x_p Y (p_move Y Y) Y)) (a_op (g_x Y (x_p Y (p_lent Y Tryd.underlying9 Y) Y)) (a_op (g_x Y (x_p Y (p_bin Y Y Y Y) Y)) (a_op (g_x Y (x_p Y (p_move Y Y) Y)) (a_op (g_on Y Y Y (dF h55) Y (x_p Y (p_move Y Y) Y)) (a_op (g_on Y Y Y (dF h55) Y (x_p Y (p_ixt Y Tryd.underlying9 Y Y Y (lrd_get h56)) Y)) (a_op (g_on Y Y Y (dF h55) Y (x_p Y (u_fa Y Y Tryd.underlying90 Y in_5 nz Y Y (nl (Gutf8_acceptRange.len accept6'19))) Y)) (a_op (g_on Y Y Y (dF h55) Y (x_p Y (u_ld Y Y Tryd.underlying5 Y Y ((Sub.refl _).trans (Gutf8_acceptRange.sub0 accept6'19))) Y)) (a_op (g_on Y Y Y (dF h55) Y (x_p Y (p_u8lt (a := (lrd s0_0 1)) (b := accept6'19.lo_) Y Y Y) Y)) (a_op (g_x Y (x_p Y (p_pkf Y Y (dF h55) (.same _)) Y)) (a_op (g_x Y (x_p Y (p_move Y Y) Y)) (a_op (g_on Y Y Y (dF h57) Y (x_p Y (u_fa Y Y Tryd.underlying90 Y in_5 nz Y Y (nl (Gutf8_acceptRange.len accept6'19))) Y)) (a_op (g_on Y Y Y (dF h57) Y (x_p Y (u_ld Y Y Tryd.underlying5 Y Y ((Sub.refl _).trans (Gutf8_acceptRange.sub1 accept6'19))) Y)) (a_op (g_on Y Y Y (dF h57) Y (x_p Y (p_move Y Y) Y)) (a_op (g_on Y Y Y (dF h57) Y (x_p Y (p_ixt Y Tryd.underlying9 Y Y Y (lrd_get h58)) Y)) (a_nil)))))))))))))))) ?_
              refine t_on Y Y Y Y (dF h57) Y (PureD.opD (p_u8lt (a := accept6'19.hi_) (b := (lrd s0_0 1)) Y Y Y)) ?_
              refine t_op Y Y (PureD.opD (p_pkf Y Y (dF h57) (.same _))) ?_
              refine t_op Y Y (PureD.opD (p_move Y Y)) ?_
              refine t_on Y Y Y Y (dF h59) Y (PureD.opD (p_move Y Y)) ?_
              refine t_on Y Y Y Y (dF h59) Y (PureD.opD (p_ixt Y Tryd.underlying9 Y Y Y (lrd_get h60))) ?_
              refine t_on Y Y Y Y (dF h59) Y (PureD.opD (p_u8lt (a := (lrd s0_0 2)) (b := (128 : UInt8)) Y Y Y)) ?_
              refine t_op Y Y (PureD.opD (p_pkf Y Y (dF h59) (.same _))) ?_
              refine t_op Y Y (PureD.opD (p_move Y Y)) ?_
              refine t_on Y Y Y Y (dF h61) Y (PureD.opD (p_move Y Y)) ?_
              refine t_on Y Y Y Y (dF h61) Y (PureD.opD (p_ixt Y Tryd.underlying9 Y Y Y (lrd_get h62))) ?_
              refine t_on Y Y Y Y (dF h61) Y (PureD.opD (p_u8lt (a := (191 : UInt8)) (b := (lrd s0_0 2)) Y Y Y)) ?_
              refine t_op Y Y (PureD.opD (p_pkf Y Y (dF h61) (.same _))) ?_
              refine t_op Y Y (PureD.opD (p_move Y Y)) ?_
              refine t_on Y Y Y Y (dF h63) Y (PureD.opD (p_move Y Y)) ?_
              refine t_on Y Y Y Y (dF h63) Y (PureD.opD (p_ixt Y Tryd.underlying9 Y Y Y (lrd_get h64))) ?_
              refine t_on Y Y Y Y (dF h63) Y (PureD.opD (p_u8lt (a := (lrd s0_0 3)) (b := (128 : UInt8)) Y Y Y)) ?_
              refine t_op Y Y (PureD.opD (p_pkf Y Y (dF h63) (.same _))) ?_
              refine t_op Y Y (PureD.opD (p_move Y Y)) ?_
              refine t_off Y Y Y Y (dT h65) Y Y ?_
              refine t_off Y Y Y Y (dT h65) Y Y ?_
              refine t_off Y Y Y Y (dT h65) Y Y ?_
              refine t_op Y Y (PureD.opD (p_pkt Y Y (dT h65) (.same _))) ?_
              refine t_gho (Gho_st (L := [(0, .t s0_0), (166, .b true)]) (H := []) (N := 169) Y ⟨TLes.same _, TLes.same _, trivial⟩ trivial) ?_
              exact rfl
             ·replace H := ite_else h65 H
              refine chkK H fun h66 H => ?_
              have hz := some_elim H
              subst hz
              refine AW2_ghoQ ?_
              refine AW2_draw 15 [15, 16, 17, 18, 19, 20, 21, 22, 23, 24, 25, 26, 27, 28, 29, 30, 31, 32, 33, 34, 35, 36] (fun k => ([.t s0_0, .i (s0_0.length : Int), .b (decide ((s0_0.length : Int) < (4 : Int))), .b (decide ((s0_0.length : Int) < (4 : Int))), .t s0_0, .p (AV.b8 (lrd s0_0 1)), .q 6 (0 + 0), .p (AV.b8 accept6'19.lo_), .b (decide ((lrd s0_0 1) < accept6'19.lo_)), .b (decide ((lrd s0_0 1) < accept6'19.lo_)), .b (decide ((lrd s0_0 1) < accept6'19.lo_)), .q 6 (0 + 1), .p (AV.b8 accept6'19.hi_), .t s0_0, .p (AV.b8 (lrd s0_0 1))] : List TV).getD k TV.any) (fun k => g_utf8_ValidString_r25.getD k []) [(0, none), (140, some 10), (142, some 12), (144, some 14)] [] (fun k => g_utf8_ValidString_r25c.getD k []) mixed (by kernel_rfl) Y Y (a_op (g_x Y (x_p Y (p_move Y Y) Y)) (a_op (g_x Y (x_p Y (p_lent Y Tryd.underlying9 Y) Y)) (a_op (g_x Y (x_p Y (p_bin Y Y Y Y) Y)) (a_op (g_x Y (x_p Y (p_move Y Y) Y)) (a_op (g_on Y Y Y (dF h55) Y (x_p Y (p_move Y Y) Y)) (a_op (g_on Y Y Y (dF h55) Y (x_p Y (p_ixt Y Tryd.underlying9 Y Y Y (lrd_get h56)) Y)) (a_op (g_on Y Y Y (dF h55) Y (x_p Y (u_fa Y Y Tryd.underlying90 Y in_5 nz Y Y (nl (Gutf8_acceptRange.len accept6'19))) Y)) (a_op (g_on Y Y Y (dF h55) Y (x_p Y (u_ld Y Y Tryd.underlying5 Y Y ((Sub.refl _).trans (Gutf8_acceptRange.sub0 accept6'19))) Y)) (a_op (g_on Y Y Y (dF h55) Y (x_p Y (p_u8lt (a := (lrd s0_0 1)) (b := accept6'19.lo_) Y Y Y) Y)) (a_op (g_x Y (x_p Y (p_pkf Y Y (dF h55) (.same _)) Y)) (a_op (g_x Y (x_p Y (p_move Y Y) Y)) (a_op (g_on Y Y Y (dF h57) Y (x_p Y (u_fa Y Y Tryd.underlying90 Y in_5 nz Y Y (nl (Gutf8_acceptRange.len accept6'19))) Y)) (a_op (g_on Y Y Y (dF h57) Y (x_p Y (u_ld Y Y Tryd.underlying5 Y Y ((Sub.refl _).trans (Gutf8_acceptRange.sub1 accept6'19))) Y)) (a_op (g_on Y Y Y (dF h57) Y (x_p Y (p_move Y Y) Y)) (a_op (g_on Y Y Y (dF h57) Y (x_p Y (p_ixt Y Tryd.underlying9 Y Y Y (lrd_get h58)) Y)) (a_nil)))))))))))))))) ?_
              refine t_on Y Y Y Y (dF h57) Y (PureD.opD (p_u8lt (a := accept6'19.hi_) (b := (lrd s0_0 1)) Y Y Y)) ?_
              refine t_op Y Y (PureD.opD (p_pkf Y Y (dF h57) (.same _))) ?_
              refine t_op Y Y (PureD.opD (p_move Y Y)) ?_
              refine t_on Y Y Y Y (dF h59) Y (PureD.opD (p_move Y Y)) ?_
              refine t_on Y Y Y Y (dF h59) Y (PureD.opD (p_ixt Y Tryd.underlying9 Y Y Y (lrd_get h60))) ?_
              refine t_on Y Y Y Y (dF h59) Y (PureD.opD (p_u8lt (a := (lrd s0_0 2)) (b := (128 : UInt8)) Y Y Y)) ?_
              refine t_op Y Y (PureD.opD (p_pkf Y Y (dF h59) (.same _))) ?_
              refine t_op Y Y (PureD.opD (p_move Y Y)) ?_
              refine t_on Y Y Y Y (dF h61) Y (PureD.opD (p_move Y Y)) ?_
              refine t_on Y Y Y Y (dF h61) Y (PureD.opD (p_ixt Y Tryd.underlying9 Y Y Y (lrd_get h62))) ?_
              refine t_on Y Y Y Y (dF h61) Y (PureD.opD (p_u8lt (a := (191 : UInt8)) (b := (lrd s0_0 2)) Y Y Y)) ?_
              refine t_op Y Y (PureD.opD (p_pkf Y Y (dF h61) (.same _))) ?_
              refine t_op Y Y (PureD.opD (p_move Y Y)) ?_
              refine t_on Y Y Y Y (dF h63) Y (PureD.opD (p_move Y Y)) ?_
              refine t_on Y Y Y Y (dF h63) Y (PureD.opD (p_ixt Y Tryd.underlying9 Y Y Y (lrd_get h64))) ?_
              refine t_on Y Y Y Y (dF h63) Y (PureD.opD (p_u8lt (a := (lrd s0_0 3)) (b := (128 : UInt8)) Y Y Y)) ?_
              refine t_op Y Y (PureD.opD (p_pkf Y Y (dF h63) (.same _))) ?_
              refine t_op Y Y (PureD.opD (p_move Y Y)) ?_
              refine t_on Y Y Y Y (dF h65) Y (PureD.opD (p_move Y Y)) ?_
              refine t_on Y Y Y Y (dF h65) Y (PureD.opD (p_ixt Y Tryd.underlying9 Y Y Y (lrd_get h66))) ?_
              refine t_on Y Y Y Y (dF h65) Y (PureD.opD (p_u8lt (a := (191 : UInt8)) (b := (lrd s0_0 3)) Y Y Y)) ?_
              refine t_op Y Y (PureD.opD (p_pkf Y Y (dF h65) (.same _))) ?_
              refine t_gho (Gho_st (L := [(0, .t s0_0), (166, .b (decide ((191 : UInt8) < (lrd s0_0 3))))]) (H := []) (N := 169) Y ⟨TLes.same _, TLes.same _, trivial⟩ trivial) ?_
              exact rfl
       ·refine AW2_cond Y (fun h68 => ?_) (fun h68 => ?_)
        ·replace H := ite_then h68 H
         refine sg [0] Y ?_
         refine rp Y Y (p_asg Y Y) ?_
         refine rz [(2, .b false)] [] Y Y Y ?_
         refine AW2_ret ?_
         have hz := some_elim H
         subst hz
         exact ⟨Y, ⟨res_tmp (.same _), trivial⟩, trivial⟩
        ·replace H := ite_else (ne_true h68) H
         refine as2 [(0, .t s0_0)] [] Y Y Y ?_
         refine AW2_skip ?_
         refine AW2_reg [0, 1, 2] Y ?_
         refine rp Y Y (p_move Y Y) ?_
         refine chkK H fun h69 H => ?_
         refine rp Y Y (u_cutt (a := (4 : Int)) (b := (s0_0.length : Int)) Y Tryd.underlying9 Y (bT_i (show 0 ≤ (4 : Int) ∧ (4 : Int) ≤ (s0_0.length : Int) ∧ (s0_0.length : Int) ≤ (s0_0.length : Int) from ⟨h69.1, h69.2, Int.le_refl _⟩).1 Y) (bT_len _) (show 0 ≤ (4 : Int) ∧ (4 : Int) ≤ (s0_0.length : Int) ∧ (s0_0.length : Int) ≤ (s0_0.length : Int) from ⟨h69.1, h69.2, Int.le_refl _⟩)) ?_
         refine rp Y Y (p_asg Y Y) ?_
         refine rz [(0, .t (cut s0_0 (4 : Int) (s0_0.length : Int)))] [] Y Y Y ?_
         have hz := some_elim H
         subst hz
         exact ⟨Y, Y⟩
      ·replace H := ite_else h54 H
       refine sg [0] Y ?_
       refine rp Y Y (p_asg Y Y) ?_
       refine rz [(2, .b false)] [] Y Y Y ?_
       refine AW2_ret ?_
       have hz := some_elim H
       subst hz
       exact ⟨Y, ⟨res_tmp (.same _), trivial⟩, trivial⟩
  ·replace H := ite_else h1 H
   refine as2 [] [] Y Y Y ?_
   refine AW2_exit ?_
   refine thenQ2_exit ?_
   have hz := some_elim H
   subst hz
   exact ⟨Y, Y⟩
 ·rcases o'26 with y'27 | y'28
  ·obtain ⟨rfl, hs⟩ := hs
   refine ⟨by simp, ?_⟩
   have hz := some_elim H
   subst hz
   exact ⟨hs.1, hs.2⟩
  ·obtain ⟨rfl, rfl⟩ := hs
   refine ⟨by simp, ?_⟩
   refine blockQ2_exit ?_
   refine sg [0] Y ?_
   refine rp Y Y (p_asg Y Y) ?_
   refine rz [(2, .b true)] [] Y Y Y ?_
   refine AW2_ret ?_
   have hz := some_elim H
   subst hz
   exact ⟨⟨res_tmp (.same _), trivial⟩, trivial⟩

/-! value.Check -/
noncomputable def g_value_Check (v0 : GValue) : Option (Int) :=
  (if (v0.Kind < (0 : Int)) ∨ (v0.Kind > (4 : Int)) then some (2 : Int) else (if (v0.Text.length : Int) > (40 : Int) then some (1 : Int) else letO (decide ((((v0.Kind ≠ (4 : Int)) ∧ (v0.Text ≠ [])) ∨ ((v0.Kind ≠ (3 : Int)) ∧ (v0.Bits ≠ (0 : UInt64)))) ∨ (((v0.Kind ≠ (2 : Int)) ∧ (v0.Kind ≠ (1 : Int))) ∧ (v0.Int_ ≠ (0 : Int))))) fun t48'1 => (if t48'1 = true then some (3 : Int) else (show Option (Int ⊕ Unit) from (if v0.Kind = (1 : Int) then (if (v0.Int_ ≠ (0 : Int)) ∧ (v0.Int_ ≠ (1 : Int)) then some (.inl (3 : Int)) else some (.inr ())) else (if v0.Kind = (3 : Int) then ((if (fneq v0.Bits v0.Bits) = true then some true else (if (feq v0.Bits (0 : F64)) = true then (g_math_Signbit v0.Bits).bind fun r'4 => some r'4 else some false))).bind fun g'5 => (if g'5 = true then some (.inl (3 : Int)) else some (.inr ())) else (if v0.Kind = (4 : Int) then (g_utf8_ValidString v0.Text).bind fun r'6 => (if (!r'6) = true then some (.inl (3 : Int)) else some (.inr ())) else some (.inr ()))))).bind fun o'8 => match o'8 with | .inl y'7 => some y'7 | .inr j'2 => some (0 : Int))))
set_option maxHeartbeats 4000000 in
set_option maxRecDepth 100000 in
theorem g_value_Check_ac {v0 : GValue} {r : Int} (H : g_value_Check v0 = some r) : ACp Tryd.prog 14 [(.agg (GValue.cs v0))] (AV.int r) := by
 refine ACp_of (AC2_of_body (vs := [.i r]) Tryd.func14 Y Y (Nat.le_of_ble_eq_true Y) Y ?_) (fun _ => .same _)
 unfold g_value_Check at H
 refine as2 [(0, .g (GValue.cs v0))] [] Y Y Y ?_
 refine sg [0, 1] Y ?_
 refine r_op Y Y (MakeD.opD (n_box 1 Y Y) Y Y Y Y) ?_
 refine rp Y Y (p_asg Y Y) ?_
 refine rz [(1, .q 1 (0))] [(1, .pure (GValue.cs v0))] Y Y Y ?_
 refine AW2_seq ?_
 refine AW2_seq ?_
 refine AW2_mid (⟨[(1, .q 1 (0)), (11, .b (decide ((v0.Kind < (0 : Int)) ∨ (v0.Kind > (4 : Int)))))], [(1, .pure (GValue.cs v0))], 83⟩ : TS) ?_ ?_
 ·refine AW2_reg [0, 1, 2, 3, 4, 5, 6, 7] Y ?_
  refine rp Y Y (u_fa Y Y Tryd.underlying24 Y in_3 nz Y Y (nl (GValue.len v0))) ?_
  refine rp Y Y (u_ld Y Y Tryd.underlying3 Y Y ((Sub.refl _).trans (GValue.sub0 v0))) ?_
  refine rp Y Y (p_bin Y Y Y Y) ?_
  refine rp Y Y (p_move Y Y) ?_
  refine (Classical.em (v0.Kind < (0 : Int))).elim (fun h1 => ?_) (fun h1 => ?_)
  ·iterate 3 (refine r_off rfl rfl rfl rfl (dT h1) rfl rfl ?_)
   refine rp Y Y (p_pkt Y Y (dT h1) (tb (dT (p := (v0.Kind < (0 : Int)) ∨ (v0.Kind > (4 : Int))) (Or.inl h1)).symm)) ?_
   refine rs [(1, .q 1 (0)), (11, .b (decide ((v0.Kind < (0 : Int)) ∨ (v0.Kind > (4 : Int)))))] [(1, .pure (GValue.cs v0))] Y Y Y ?_
   exact RunW_nil rfl
  ·refine r_on Y Y Y Y (dF h1) Y (PureD.opD (u_fa Y Y Tryd.underlying24 Y in_3 nz Y Y (nl (GValue.len v0)))) ?_
   refine r_on Y Y Y Y (dF h1) Y (PureD.opD (u_ld Y Y Tryd.underlying3 Y Y ((Sub.refl _).trans (GValue.sub0 v0)))) ?_
   refine r_on Y Y Y Y (dF h1) Y (PureD.opD (p_bin Y Y Y Y)) ?_
   refine rp Y Y (p_pkf Y Y (dF h1) (tb ((or_l (p := v0.Kind < (0 : Int)) (q := v0.Kind > (4 : Int)) h1)))) ?_
   refine rs [(1, .q 1 (0)), (11, .b (decide ((v0.Kind < (0 : Int)) ∨ (v0.Kind > (4 : Int)))))] [(1, .pure (GValue.cs v0))] Y Y Y ?_
   exact RunW_nil rfl
 ·refine AW2_if (p := (v0.Kind < (0 : Int)) ∨ (v0.Kind > (4 : Int))) Y (fun h2 => ?_) (fun h2 => ?_)
  ·replace H := ite_then h2 H
   refine sg [0] Y ?_
   refine rp Y Y (p_asg Y Y) ?_
   refine rz [(2, .i (2 : Int))] [] Y Y Y ?_
   refine AW2_ret ?_
   have hz := some_elim H
   subst hz
   exact ⟨⟨res_tmp (.same _), trivial⟩, trivial⟩
  ·replace H := ite_else h2 H
   refine as2 [(1, .q 1 (0))] [(1, .pure (GValue.cs v0))] Y Y Y ?_
   refine AW2_skip ?_
   refine AW2_seq ?_
   refine sg [0, 1, 2, 3] Y ?_
   refine rp Y Y (u_fa Y Y Tryd.underlying24 Y in_9 nz Y Y (nl (GValue.len v0))) ?_
   refine rp Y Y (u_ld Y Y Tryd.underlying9 Y Y ((Sub.refl _).trans (GValue.sub3 v0))) ?_
   refine rp Y Y (p_lent Y Tryd.underlying9 Y) ?_
   refine rp Y Y (p_bin Y Y Y Y) ?_
   refine rz [(1, .q 1 (0)), (15, .b (decide ((v0.Text.length : Int) > (40 : Int))))] [(1, .pure (GValue.cs v0))] Y Y Y ?_
   refine AW2_if (p := (v0.Text.length : Int) > (40 : Int)) Y (fun h3 => ?_) (fun h3 => ?_)
   ·replace H := ite_then h3 H
    refine sg [0] Y ?_
    refine rp Y Y (p_asg Y Y) ?_
    refine rz [(2, .i (1 : Int))] [] Y Y Y ?_
    refine AW2_ret ?_
    have hz := some_elim H
    subst hz
    exact ⟨⟨res_tmp (.same _), trivial⟩, trivial⟩
   ·replace H := ite_else h3 H
    refine as2 [(1, .q 1 (0))] [(1, .pure (GValue.cs v0))] Y Y Y ?_
    refine AW2_skip ?_
    refine AW2_seq ?_
    refine AW2_seq ?_
    refine AW2_mid (⟨[(1, .q 1 (0)), (48, .b (decide ((((v0.Kind ≠ (4 : Int)) ∧ (v0.Text ≠ [])) ∨ ((v0.Kind ≠ (3 : Int)) ∧ (v0.Bits ≠ (0 : UInt64)))) ∨ (((v0.Kind ≠ (2 : Int)) ∧ (v0.Kind ≠ (1 : Int))) ∧ (v0.Int_ ≠ (0 : Int))))))], [(1, .pure (GValue.cs v0))], 83⟩ : TS) ?_ ?_
    ·refine AW2_reg [0, 1, 2, 3, 4, 5, 6, 7, 8, 9, 10, 11, 12, 13, 14, 15, 16, 17, 18, 19, 20, 21, 22, 23, 24, 25, 26, 27, 28, 29, 30, 31, 32] Y ?_
     refine rp Y Y (u_fa Y Y Tryd.underlying24 Y in_3 nz Y Y (nl (GValue.len v0))) ?_
     refine rp Y Y (u_ld Y Y Tryd.underlying3 Y Y ((Sub.refl _).trans (GValue.sub0 v0))) ?_
     refine rp Y Y (p_ine Y Y Y) ?_
     refine rp Y Y (p_move Y Y) ?_
     refine (Classical.em (v0.Kind ≠ (4 : Int))).elim (fun h4 => ?_) (fun h4 => ?_)
     ·refine r_on Y Y Y Y (dT h4) Y (PureD.opD (u_fa Y Y Tryd.underlying24 Y in_9 nz Y Y (nl (GValue.len v0)))) ?_
      refine r_on Y Y Y Y (dT h4) Y (PureD.opD (u_ld Y Y Tryd.underlying9 Y Y ((Sub.refl _).trans (GValue.sub3 v0)))) ?_
      refine r_on Y Y Y Y (dT h4) Y (PureD.opD (p_sne Y Y Y)) ?_
      refine rp Y Y (p_pkt Y Y (dT h4) (tb ((and_l (p := v0.Kind ≠ (4 : Int)) (q := v0.Text ≠ []) h4)))) ?_
      refine rp Y Y (p_move Y Y) ?_
      refine (Classical.em (v0.Text ≠ [])).elim (fun h5 => ?_) (fun h5 => ?_)
      ·have qq1 := dT (p := (v0.Kind ≠ (4 : Int)) ∧ (v0.Text ≠ [])) ⟨h4, h5⟩
       iterate 4 (refine r_off rfl rfl rfl rfl qq1 rfl rfl ?_)
       iterate 3 (refine r_off2 rfl rfl rfl rfl rfl rfl ?_)
       refine r_off Y Y Y Y qq1 Y Y ?_
       have qq2 := dT (p := ((v0.Kind ≠ (4 : Int)) ∧ (v0.Text ≠ [])) ∨ ((v0.Kind ≠ (3 : Int)) ∧ (v0.Bits ≠ (0 : UInt64)))) (Or.inl ⟨h4, h5⟩)
       refine rp Y Y (p_pkt Y Y qq1 (tb qq2.symm)) ?_
       refine rp Y Y (p_move Y Y) ?_
       iterate 4 (refine r_off rfl rfl rfl rfl qq2 rfl rfl ?_)
       iterate 3 (refine r_off2 rfl rfl rfl rfl rfl rfl ?_)
       iterate 2 (refine r_off rfl rfl rfl rfl qq2 rfl rfl ?_)
       iterate 3 (refine r_off2 rfl rfl rfl rfl rfl rfl ?_)
       refine r_off Y Y Y Y qq2 Y Y ?_
       refine rp Y Y (p_pkt Y Y qq2 (tb (dT (p := (((v0.Kind ≠ (4 : Int)) ∧ (v0.Text ≠ [])) ∨ ((v0.Kind ≠ (3 : Int)) ∧ (v0.Bits ≠ (0 : UInt64)))) ∨ (((v0.Kind ≠ (2 : Int)) ∧ (v0.Kind ≠ (1 : Int))) ∧ (v0.Int_ ≠ (0 : Int)))) (Or.inl (Or.inl ⟨h4, h5⟩))).symm)) ?_
       refine rs [(1, .q 1 (0)), (48, .b (decide ((((v0.Kind ≠ (4 : Int)) ∧ (v0.Text ≠ [])) ∨ ((v0.Kind ≠ (3 : Int)) ∧ (v0.Bits ≠ (0 : UInt64)))) ∨ (((v0.Kind ≠ (2 : Int)) ∧ (v0.Kind ≠ (1 : Int))) ∧ (v0.Int_ ≠ (0 : Int))))))] [(1, .pure (GValue.cs v0))] Y Y Y ?_
       exact RunW_nil rfl
      ·have qq3 := dF (p := (v0.Kind ≠ (4 : Int)) ∧ (v0.Text ≠ [])) (fun h => h5 h.2)
       refine rn Y Y Y Y qq3 Y (u_fa Y Y Tryd.underlying24 Y in_3 nz Y Y (nl (GValue.len v0))) ?_
       refine rn Y Y Y Y qq3 Y (u_ld Y Y Tryd.underlying3 Y Y ((Sub.refl _).trans (GValue.sub0 v0))) ?_
       refine rn Y Y Y Y qq3 Y (p_ine Y Y Y) ?_
       refine rn Y Y Y Y qq3 Y (p_move Y Y) ?_
       refine (Classical.em (v0.Kind ≠ (3 : Int))).elim (fun h6 => ?_) (fun h6 => ?_)
       ·refine r_on Y Y Y Y (dT h6) Y (PureD.opD (u_fa Y Y Tryd.underlying24 Y in_22 nz Y Y (nl (GValue.len v0)))) ?_
        refine r_on Y Y Y Y (dT h6) Y (PureD.opD (u_ld Y Y Tryd.underlying22 Y Y ((Sub.refl _).trans (GValue.sub2 v0)))) ?_
        refine r_on Y Y Y Y (dT h6) Y (PureD.opD (p_u64ne (a := v0.Bits) (b := (0 : UInt64)) Y Y Y)) ?_
        refine rn Y Y Y Y qq3 Y (p_pkt Y Y (dT h6) (tb ((and_l (p := v0.Kind ≠ (3 : Int)) (q := v0.Bits ≠ (0 : UInt64)) h6)))) ?_
        refine rp Y Y (p_pkf Y Y qq3 (tb ((or_l (p := (v0.Kind ≠ (4 : Int)) ∧ (v0.Text ≠ [])) (q := (v0.Kind ≠ (3 : Int)) ∧ (v0.Bits ≠ (0 : UInt64))) (fun h => h5 h.2))))) ?_
        refine rp Y Y (p_move Y Y) ?_
        refine (Classical.em (v0.Bits ≠ (0 : UInt64))).elim (fun h7 => ?_) (fun h7 => ?_)
        ·have qq4 := dT (p := ((v0.Kind ≠ (4 : Int)) ∧ (v0.Text ≠ [])) ∨ ((v0.Kind ≠ (3 : Int)) ∧ (v0.Bits ≠ (0 : UInt64)))) (Or.inr ⟨h6, h7⟩)
         iterate 4 (refine r_off rfl rfl rfl rfl qq4 rfl rfl ?_)
         iterate 3 (refine r_off2 rfl rfl rfl rfl rfl rfl ?_)
         iterate 2 (refine r_off rfl rfl rfl rfl qq4 rfl rfl ?_)
         iterate 3 (refine r_off2 rfl rfl rfl rfl rfl rfl ?_)
         refine r_off Y Y Y Y qq4 Y Y ?_
         refine rp Y Y (p_pkt Y Y qq4 (tb (dT (p := (((v0.Kind ≠ (4 : Int)) ∧ (v0.Text ≠ [])) ∨ ((v0.Kind ≠ (3 : Int)) ∧ (v0.Bits ≠ (0 : UInt64)))) ∨ (((v0.Kind ≠ (2 : Int)) ∧ (v0.Kind ≠ (1 : Int))) ∧ (v0.Int_ ≠ (0 : Int)))) (Or.inl (Or.inr ⟨h6, h7⟩))).symm)) ?_
         refine rs [(1, .q 1 (0)), (48, .b (decide ((((v0.Kind ≠ (4 : Int)) ∧ (v0.Text ≠ [])) ∨ ((v0.Kind ≠ (3 : Int)) ∧ (v0.Bits ≠ (0 : UInt64)))) ∨ (((v0.Kind ≠ (2 : Int)) ∧ (v0.Kind ≠ (1 : Int))) ∧ (v0.Int_ ≠ (0 : Int))))))] [(1, .pure (GValue.cs v0))] Y Y Y ?_
         exact RunW_nil rfl
        ·have qq5 := dF (p := ((v0.Kind ≠ (4 : Int)) ∧ (v0.Text ≠ [])) ∨ ((v0.Kind ≠ (3 : Int)) ∧ (v0.Bits ≠ (0 : UInt64)))) (not_or.2 ⟨(fun h => h5 h.2), (fun h => h7 h.2)⟩)
         refine rn Y Y Y Y qq5 Y (u_fa Y Y Tryd.underlying24 Y in_3 nz Y Y (nl (GValue.len v0))) ?_
         refine rn Y Y Y Y qq5 Y (u_ld Y Y Tryd.underlying3 Y Y ((Sub.refl _).trans (GValue.sub0 v0))) ?_
         refine rn Y Y Y Y qq5 Y (p_ine Y Y Y) ?_
         refine rn Y Y Y Y qq5 Y (p_move Y Y) ?_
         refine (Classical.em (v0.Kind ≠ (2 : Int))).elim (fun h8 => ?_) (fun h8 => ?_)
         ·refine r_on Y Y Y Y (dT h8) Y (PureD.opD (u_fa Y Y Tryd.underlying24 Y in_3 nz Y Y (nl (GValue.len v0)))) ?_
          refine r_on Y Y Y Y (dT h8) Y (PureD.opD (u_ld Y Y Tryd.underlying3 Y Y ((Sub.refl _).trans (GValue.sub0 v0)))) ?_
          refine r_on Y Y Y Y (dT h8) Y (PureD.opD (p_ine Y Y Y)) ?_
          refine rn Y Y Y Y qq5 Y (p_pkt Y Y (dT h8) (tb ((and_l (p := v0.Kind ≠ (2 : Int)) (q := v0.Kind ≠ (1 : Int)) h8)))) ?_
          refine rn Y Y Y Y qq5 Y (p_move Y Y) ?_
          refine (Classical.em (v0.Kind ≠ (1 : Int))).elim (fun h9 => ?_) (fun h9 => ?_)
          ·have qq6 := dT (p := (v0.Kind ≠ (2 : Int)) ∧ (v0.Kind ≠ (1 : Int))) ⟨h8, h9⟩
           refine rn Y Y Y Y qq6 Y (u_fa Y Y Tryd.underlying24 Y in_3 nz Y Y (nl (GValue.len v0))) ?_
           refine rn Y Y Y Y qq6 Y (u_ld Y Y Tryd.underlying3 Y Y ((Sub.refl _).trans (GValue.sub1 v0))) ?_
           refine rn Y Y Y Y qq6 Y (p_ine Y Y Y) ?_
           refine rn Y Y Y Y qq5 Y (p_pkt Y Y qq6 (tb ((and_l (p := (v0.Kind ≠ (2 : Int)) ∧ (v0.Kind ≠ (1 : Int))) (q := v0.Int_ ≠ (0 : Int)) ⟨h8, h9⟩)))) ?_
           refine rp Y Y (p_pkf Y Y qq5 (tb ((or_l (p := ((v0.Kind ≠ (4 : Int)) ∧ (v0.Text ≠ [])) ∨ ((v0.Kind ≠ (3 : Int)) ∧ (v0.Bits ≠ (0 : UInt64)))) (q := ((v0.Kind ≠ (2 : Int)) ∧ (v0.Kind ≠ (1 : Int))) ∧ (v0.Int_ ≠ (0 : Int))) (not_or.2 ⟨(fun h => h5 h.2), (fun h => h7 h.2)⟩))))) ?_
           refine rs [(1, .q 1 (0)), (48, .b (decide ((((v0.Kind ≠ (4 : Int)) ∧ (v0.Text ≠ [])) ∨ ((v0.Kind ≠ (3 : Int)) ∧ (v0.Bits ≠ (0 : UInt64)))) ∨ (((v0.Kind ≠ (2 : Int)) ∧ (v0.Kind ≠ (1 : Int))) ∧ (v0.Int_ ≠ (0 : Int))))))] [(1, .pure (GValue.cs v0))] Y Y Y ?_
           exact RunW_nil rfl
          ·have qq7 := dF (p := (v0.Kind ≠ (2 : Int)) ∧ (v0.Kind ≠ (1 : Int))) (fun h => h9 h.2)
           iterate 3 (refine r_off rfl rfl rfl rfl qq7 rfl rfl ?_)
           refine rn Y Y Y Y qq5 Y (p_pkf Y Y qq7 (tb (dF (p := ((v0.Kind ≠ (2 : Int)) ∧ (v0.Kind ≠ (1 : Int))) ∧ (v0.Int_ ≠ (0 : Int))) (fun x => (fun h => h9 h.2) x.1)).symm)) ?_
           refine rp Y Y (p_pkf Y Y qq5 (tb ((or_l (p := ((v0.Kind ≠ (4 : Int)) ∧ (v0.Text ≠ [])) ∨ ((v0.Kind ≠ (3 : Int)) ∧ (v0.Bits ≠ (0 : UInt64)))) (q := ((v0.Kind ≠ (2 : Int)) ∧ (v0.Kind ≠ (1 : Int))) ∧ (v0.Int_ ≠ (0 : Int))) (not_or.2 ⟨(fun h => h5 h.2), (fun h => h7 h.2)⟩))))) ?_
           refine rs [(1, .q 1 (0)), (48, .b (decide ((((v0.Kind ≠ (4 : Int)) ∧ (v0.Text ≠ [])) ∨ ((v0.Kind ≠ (3 : Int)) ∧ (v0.Bits ≠ (0 : UInt64)))) ∨ (((v0.Kind ≠ (2 : Int)) ∧ (v0.Kind ≠ (1 : Int))) ∧ (v0.Int_ ≠ (0 : Int))))))] [(1, .pure (GValue.cs v0))] Y Y Y ?_
           exact RunW_nil rfl
         ·iterate 3 (refine r_off rfl rfl rfl rfl (dF h8) rfl rfl ?_)
          refine rn Y Y Y Y qq5 Y (p_pkf Y Y (dF h8) (tb (dF (p := (v0.Kind ≠ (2 : Int)) ∧ (v0.Kind ≠ (1 : Int))) (fun x => h8 x.1)).symm)) ?_
          refine rn Y Y Y Y qq5 Y (p_move Y Y) ?_
          have qq8 := dF (p := (v0.Kind ≠ (2 : Int)) ∧ (v0.Kind ≠ (1 : Int))) (fun h => h8 h.1)
          iterate 3 (refine r_off rfl rfl rfl rfl qq8 rfl rfl ?_)
          refine rn Y Y Y Y qq5 Y (p_pkf Y Y qq8 (tb (dF (p := ((v0.Kind ≠ (2 : Int)) ∧ (v0.Kind ≠ (1 : Int))) ∧ (v0.Int_ ≠ (0 : Int))) (fun x => (fun h => h8 h.1) x.1)).symm)) ?_
          refine rp Y Y (p_pkf Y Y qq5 (tb ((or_l (p := ((v0.Kind ≠ (4 : Int)) ∧ (v0.Text ≠ [])) ∨ ((v0.Kind ≠ (3 : Int)) ∧ (v0.Bits ≠ (0 : UInt64)))) (q := ((v0.Kind ≠ (2 : Int)) ∧ (v0.Kind ≠ (1 : Int))) ∧ (v0.Int_ ≠ (0 : Int))) (not_or.2 ⟨(fun h => h5 h.2), (fun h => h7 h.2)⟩))))) ?_
          refine rs [(1, .q 1 (0)), (48, .b (decide ((((v0.Kind ≠ (4 : Int)) ∧ (v0.Text ≠ [])) ∨ ((v0.Kind ≠ (3 : Int)) ∧ (v0.Bits ≠ (0 : UInt64)))) ∨ (((v0.Kind ≠ (2 : Int)) ∧ (v0.Kind ≠ (1 : Int))) ∧ (v0.Int_ ≠ (0 : Int))))))] [(1, .pure (GValue.cs v0))] Y Y Y ?_
          exact RunW_nil rfl
       ·iterate 3 (refine r_off rfl rfl rfl rfl (dF h6) rfl rfl ?_)
        refine rn Y Y Y Y qq3 Y (p_pkf Y Y (dF h6) (tb (dF (p := (v0.Kind ≠ (3 : Int)) ∧ (v0.Bits ≠ (0 : UInt64))) (fun x => h6 x.1)).symm)) ?_
        refine rp Y Y (p_pkf Y Y qq3 (tb ((or_l (p := (v0.Kind ≠ (4 : Int)) ∧ (v0.Text ≠ [])) (q := (v0.Kind ≠ (3 : Int)) ∧ (v0.Bits ≠ (0 : UInt64))) (fun h => h5 h.2))))) ?_
        refine rp Y Y (p_move Y Y) ?_
        have qq9 := dF (p := ((v0.Kind ≠ (4 : Int)) ∧ (v0.Text ≠ [])) ∨ ((v0.Kind ≠ (3 : Int)) ∧ (v0.Bits ≠ (0 : UInt64)))) (not_or.2 ⟨(fun h => h5 h.2), (fun h => h6 h.1)⟩)
        refine rn Y Y Y Y qq9 Y (u_fa Y Y Tryd.underlying24 Y in_3 nz Y Y (nl (GValue.len v0))) ?_
        refine rn Y Y Y Y qq9 Y (u_ld Y Y Tryd.underlying3 Y Y ((Sub.refl _).trans (GValue.sub0 v0))) ?_
        refine rn Y Y Y Y qq9 Y (p_ine Y Y Y) ?_
        refine rn Y Y Y Y qq9 Y (p_move Y Y) ?_
        refine (Classical.em (v0.Kind ≠ (2 : Int))).elim (fun h10 => ?_) (fun h10 => ?_)
        ·refine r_on Y Y Y Y (dT h10) Y (PureD.opD (u_fa Y Y Tryd.underlying24 Y in_3 nz Y Y (nl (GValue.len v0)))) ?_
         refine r_on Y Y Y Y (dT h10) Y (PureD.opD (u_ld Y Y Tryd.underlying3 Y Y ((Sub.refl _).trans (GValue.sub0 v0)))) ?_
         refine r_on Y Y Y Y (dT h10) Y (PureD.opD (p_ine Y Y Y)) ?_
         refine rn Y Y Y Y qq9 Y (p_pkt Y Y (dT h10) (tb ((and_l (p := v0.Kind ≠ (2 : Int)) (q := v0.Kind ≠ (1 : Int)) h10)))) ?_
         refine rn Y Y Y Y qq9 Y (p_move Y Y) ?_
         refine (Classical.em (v0.Kind ≠ (1 : Int))).elim (fun h11 => ?_) (fun h11 => ?_)
         ·have qq10 := dT (p := (v0.Kind ≠ (2 : Int)) ∧ (v0.Kind ≠ (1 : Int))) ⟨h10, h11⟩
          refine rn Y Y Y Y qq10 Y (u_fa Y Y Tryd.underlying24 Y in_3 nz Y Y (nl (GValue.len v0))) ?_
          refine rn Y Y Y Y qq10 Y (u_ld Y Y Tryd.underlying3 Y Y ((Sub.refl _).trans (GValue.sub1 v0))) ?_
          refine rn Y Y Y Y qq10 Y (p_ine Y Y Y) ?_
          refine rn Y Y Y Y qq9 Y (p_pkt Y Y qq10 (tb ((and_l (p := (v0.Kind ≠ (2 : Int)) ∧ (v0.Kind ≠ (1 : Int))) (q := v0.Int_ ≠ (0 : Int)) ⟨h10, h11⟩)))) ?_
          refine rp Y Y (p_pkf Y Y qq9 (tb ((or_l (p := ((v0.Kind ≠ (4 : Int)) ∧ (v0.Text ≠ [])) ∨ ((v0.Kind ≠ (3 : Int)) ∧ (v0.Bits ≠ (0 : UInt64)))) (q := ((v0.Kind ≠ (2 : Int)) ∧ (v0.Kind ≠ (1 : Int))) ∧ (v0.Int_ ≠ (0 : Int))) (not_or.2 ⟨(fun h => h5 h.2), (fun h => h6 h.1)⟩))))) ?_
          refine rs [(1, .q 1 (0)), (48, .b (decide ((((v0.Kind ≠ (4 : Int)) ∧ (v0.Text ≠ [])) ∨ ((v0.Kind ≠ (3 : Int)) ∧ (v0.Bits ≠ (0 : UInt64)))) ∨ (((v0.Kind ≠ (2 : Int)) ∧ (v0.Kind ≠ (1 : Int))) ∧ (v0.Int_ ≠ (0 : Int))))))] [(1, .pure (GValue.cs v0))] Y Y Y ?_
          exact RunW_nil rfl
         ·have qq11 := dF (p := (v0.Kind ≠ (2 : Int)) ∧ (v0.Kind ≠ (1 : Int))) (fun h => h11 h.2)
          iterate 3 (refine r_off rfl rfl rfl rfl qq11 rfl rfl ?_)
          refine rn Y Y Y Y qq9 Y (p_pkf Y Y qq11 (tb (dF (p := ((v0.Kind ≠ (2 : Int)) ∧ (v0.Kind ≠ (1 : Int))) ∧ (v0.Int_ ≠ (0 : Int))) (fun x => (fun h => h11 h.2) x.1)).symm)) ?_
          refine rp Y Y (p_pkf Y Y qq9 (tb ((or_l (p := ((v0.Kind ≠ (4 : Int)) ∧ (v0.Text ≠ [])) ∨ ((v0.Kind ≠ (3 : Int)) ∧ (v0.Bits ≠ (0 : UInt64)))) (q := ((v0.Kind ≠ (2 : Int)) ∧ (v0.Kind ≠ (1 : Int))) ∧ (v0.Int_ ≠ (0 : Int))) (not_or.2 ⟨(fun h => h5 h.2), (fun h => h6 h.1)⟩))))) ?_
          refine rs [(1, .q 1 (0)), (48, .b (decide ((((v0.Kind ≠ (4 : Int)) ∧ (v0.Text ≠ [])) ∨ ((v0.Kind ≠ (3 : Int)) ∧ (v0.Bits ≠ (0 : UInt64)))) ∨ (((v0.Kind ≠ (2 : Int)) ∧ (v0.Kind ≠ (1 : Int))) ∧ (v0.Int_ ≠ (0 : Int))))))] [(1, .pure (GValue.cs v0))] Y Y Y ?_
          exact RunW_nil rfl
        ·iterate 3 (refine r_off rfl rfl rfl rfl (dF h10) rfl rfl ?_)
         refine rn Y Y Y Y qq9 Y (p_pkf Y Y (dF h10) (tb (dF (p := (v0.Kind ≠ (2 : Int)) ∧ (v0.Kind ≠ (1 : Int))) (fun x => h10 x.1)).symm)) ?_
         refine rn Y Y Y Y qq9 Y (p_move Y Y) ?_
         have qq12 := dF (p := (v0.Kind ≠ (2 : Int)) ∧ (v0.Kind ≠ (1 : Int))) (fun h => h10 h.1)
         iterate 3 (refine r_off rfl rfl rfl rfl qq12 rfl rfl ?_)
         refine rn Y Y Y Y qq9 Y (p_pkf Y Y qq12 (tb (dF (p := ((v0.Kind ≠ (2 : Int)) ∧ (v0.Kind ≠ (1 : Int))) ∧ (v0.Int_ ≠ (0 : Int))) (fun x => (fun h => h10 h.1) x.1)).symm)) ?_
         refine rp Y Y (p_pkf Y Y qq9 (tb ((or_l (p := ((v0.Kind ≠ (4 : Int)) ∧ (v0.Text ≠ [])) ∨ ((v0.Kind ≠ (3 : Int)) ∧ (v0.Bits ≠ (0 : UInt64)))) (q := ((v0.Kind ≠ (2 : Int)) ∧ (v0.Kind ≠ (1 : Int))) ∧ (v0.Int_ ≠ (0 : Int))) (not_or.2 ⟨(fun h => h5 h.2), (fun h => h6 h.1)⟩))))) ?_
         refine rs [(1, .q 1 (0)), (48, .b (decide ((((v0.Kind ≠ (4 : Int)) ∧ (v0.Text ≠ [])) ∨ ((v0.Kind ≠ (3 : Int)) ∧ (v0.Bits ≠ (0 : UInt64)))) ∨ (((v0.Kind ≠ (2 : Int)) ∧ (v0.Kind ≠ (1 : Int))) ∧ (v0.Int_ ≠ (0 : Int))))))] [(1, .pure (GValue.cs v0))] Y Y Y ?_
         exact RunW_nil rfl
     ·iterate 3 (refine r_off rfl rfl rfl rfl (dF h4) rfl rfl ?_)
      refine rp Y Y (p_pkf Y Y (dF h4) (tb (dF (p := (v0.Kind ≠ (4 : Int)) ∧ (v0.Text ≠ [])) (fun x => h4 x.1)).symm)) ?_
      refine rp Y Y (p_move Y Y) ?_
      have qq13 := dF (p := (v0.Kind ≠ (4 : Int)) ∧ (v0.Text ≠ [])) (fun h => h4 h.1)
      refine rn Y Y Y Y qq13 Y (u_fa Y Y Tryd.underlying24 Y in_3 nz Y Y (nl (GValue.len v0))) ?_
      refine rn Y Y Y Y qq13 Y (u_ld Y Y Tryd.underlying3 Y Y ((Sub.refl _).trans (GValue.sub0 v0))) ?_
      refine rn Y Y Y Y qq13 Y (p_ine Y Y Y) ?_
      refine rn Y Y Y Y qq13 Y (p_move Y Y) ?_
      refine (Classical.em (v0.Kind ≠ (3 : Int))).elim (fun h12 => ?_) (fun h12 => ?_)
      ·refine r_on Y Y Y Y (dT h12) Y (PureD.opD (u_fa Y Y Tryd.underlying24 Y in_22 nz Y Y (nl (GValue.len v0)))) ?_
       refine r_on Y Y Y Y (dT h12) Y (PureD.opD (u_ld Y Y Tryd.underlying22 Y Y ((Sub.refl _).trans (GValue.sub2 v0)))) ?_
       refine r_on Y Y Y Y (dT h12) Y (PureD.opD (p_u64ne (a := v0.Bits) (b := (0 : UInt64)) Y Y Y)) ?_
       refine rn Y Y Y Y qq13 Y (p_pkt Y Y (dT h12) (tb ((and_l (p := v0.Kind ≠ (3 : Int)) (q := v0.Bits ≠ (0 : UInt64)) h12)))) ?_
       refine rp Y Y (p_pkf Y Y qq13 (tb ((or_l (p := (v0.Kind ≠ (4 : Int)) ∧ (v0.Text ≠ [])) (q := (v0.Kind ≠ (3 : Int)) ∧ (v0.Bits ≠ (0 : UInt64))) (fun h => h4 h.1))))) ?_
       refine rp Y Y (p_move Y Y) ?_
       refine (Classical.em (v0.Bits ≠ (0 : UInt64))).elim (fun h13 => ?_) (fun h13 => ?_)
       ·have qq14 := dT (p := ((v0.Kind ≠ (4 : Int)) ∧ (v0.Text ≠ [])) ∨ ((v0.Kind ≠ (3 : Int)) ∧ (v0.Bits ≠ (0 : UInt64)))) (Or.inr ⟨h12, h13⟩)
        iterate 4 (refine r_off rfl rfl rfl rfl qq14 rfl rfl ?_)
        iterate 3 (refine r_off2 rfl rfl rfl rfl rfl rfl ?_)
        iterate 2 (refine r_off rfl rfl rfl rfl qq14 rfl rfl ?_)
        iterate 3 (refine r_off2 rfl rfl rfl rfl rfl rfl ?_)
        refine r_off Y Y Y Y qq14 Y Y ?_
        refine rp Y Y (p_pkt Y Y qq14 (tb (dT (p := (((v0.Kind ≠ (4 : Int)) ∧ (v0.Text ≠ [])) ∨ ((v0.Kind ≠ (3 : Int)) ∧ (v0.Bits ≠ (0 : UInt64)))) ∨ (((v0.Kind ≠ (2 : Int)) ∧ (v0.Kind ≠ (1 : Int))) ∧ (v0.Int_ ≠ (0 : Int)))) (Or.inl (Or.inr ⟨h12, h13⟩))).symm)) ?_
        refine rs [(1, .q 1 (0)), (48, .b (decide ((((v0.Kind ≠ (4 : Int)) ∧ (v0.Text ≠ [])) ∨ ((v0.Kind ≠ (3 : Int)) ∧ (v0.Bits ≠ (0 : UInt64)))) ∨ (((v0.Kind ≠ (2 : Int)) ∧ (v0.Kind ≠ (1 : Int))) ∧ (v0.Int_ ≠ (0 : Int))))))] [(1, .pure (GValue.cs v0))] Y Y Y ?_
        exact RunW_nil rfl
       ·have qq15 := dF (p := ((v0.Kind ≠ (4 : Int)) ∧ (v0.Text ≠ [])) ∨ ((v0.Kind ≠ (3 : Int)) ∧ (v0.Bits ≠ (0 : UInt64)))) (not_or.2 ⟨(fun h => h4 h.1), (fun h => h13 h.2)⟩)
        refine rn Y Y Y Y qq15 Y (u_fa Y Y Tryd.underlying24 Y in_3 nz Y Y (nl (GValue.len v0))) ?_
        refine rn Y Y Y Y qq15 Y (u_ld Y Y Tryd.underlying3 Y Y ((Sub.refl _).trans (GValue.sub0 v0))) ?_
        refine rn Y Y Y Y qq15 Y (p_ine Y Y Y) ?_
        refine rn Y Y Y Y qq15 Y (p_move Y Y) ?_
        refine (Classical.em (v0.Kind ≠ (2 : Int))).elim (fun h14 => ?_) (fun h14 => ?_)
        ·refine r_on Y Y Y Y (dT h14) Y (PureD.opD (u_fa Y Y Tryd.underlying24 Y in_3 nz Y Y (nl (GValue.len v0)))) ?_
         refine r_on Y Y Y Y (dT h14) Y (PureD.opD (u_ld Y Y Tryd.underlying3 Y Y ((Sub.refl _).trans (GValue.sub0 v0)))) ?_
         refine r_on Y Y Y Y (dT h14) Y (PureD.opD (p_ine Y Y Y)) ?_
         refine rn Y Y Y Y qq15 Y (p_pkt Y Y (dT h14) (tb ((and_l (p := v0.Kind ≠ (2 : Int)) (q := v0.Kind ≠ (1 : Int)) h14)))) ?_
         refine rn Y Y Y Y qq15 Y (p_move Y Y) ?_
         refine (Classical.em (v0.Kind ≠ (1 : Int))).elim (fun h15 => ?_) (fun h15 => ?_)
         ·have qq16 := dT (p := (v0.Kind ≠ (2 : Int)) ∧ (v0.Kind ≠ (1 : Int))) ⟨h14, h15⟩
          refine rn Y Y Y Y qq16 Y (u_fa Y Y Tryd.underlying24 Y in_3 nz Y Y (nl (GValue.len v0))) ?_
          refine rn Y Y Y Y qq16 Y (u_ld Y Y Tryd.underlying3 Y Y ((Sub.refl _).trans (GValue.sub1 v0))) ?_
          refine rn Y Y Y Y qq16 Y (p_ine Y Y Y) ?_
          refine rn Y Y Y Y qq15 Y (p_pkt Y Y qq16 (tb ((and_l (p := (v0.Kind ≠ (2 : Int)) ∧ (v0.Kind ≠ (1 : Int))) (q := v0.Int_ ≠ (0 : Int)) ⟨h14, h15⟩)))) ?_
          refine rp Y Y (p_pkf Y Y qq15 (tb ((or_l (p := ((v0.Kind ≠ (4 : Int)) ∧ (v0.Text ≠ [])) ∨ ((v0.Kind ≠ (3 : Int)) ∧ (v0.Bits ≠ (0 : UInt64)))) (q := ((v0.Kind ≠ (2 : Int)) ∧ (v0.Kind ≠ (1 : Int))) ∧ (v0.Int_ ≠ (0 : Int))) (not_or.2 ⟨(fun h => h4 h.1), (fun h => h13 h.2)⟩))))) ?_
          refine rs [(1, .q 1 (0)), (48, .b (decide ((((v0.Kind ≠ (4 : Int)) ∧ (v0.Text ≠ [])) ∨ ((v0.Kind ≠ (3 : Int)) ∧ (v0.Bits ≠ (0 : UInt64)))) ∨ (((v0.Kind ≠ (2 : Int)) ∧ (v0.Kind ≠ (1 : Int))) ∧ (v0.Int_ ≠ (0 : Int))))))] [(1, .pure (GValue.cs v0))] Y Y Y ?_
          exact RunW_nil rfl
         ·have qq17 := dF (p := (v0.Kind ≠ (2 : Int)) ∧ (v0.Kind ≠ (1 : Int))) (fun h => h15 h.2)
          iterate 3 (refine r_off rfl rfl rfl rfl qq17 rfl rfl ?_)
          refine rn Y Y Y Y qq15 Y (p_pkf Y Y qq17 (tb (dF (p := ((v0.Kind ≠ (2 : Int)) ∧ (v0.Kind ≠ (1 : Int))) ∧ (v0.Int_ ≠ (0 : Int))) (fun x => (fun h => h15 h.2) x.1)).symm)) ?_
          refine rp Y Y (p_pkf Y Y qq15 (tb ((or_l (p := ((v0.Kind ≠ (4 : Int)) ∧ (v0.Text ≠ [])) ∨ ((v0.Kind ≠ (3 : Int)) ∧ (v0.Bits ≠ (0 : UInt64)))) (q := ((v0.Kind ≠ (2 : Int)) ∧ (v0.Kind ≠ (1 : Int))) ∧ (v0.Int_ ≠ (0 : Int))) (not_or.2 ⟨(fun h => h4 h.1), (fun h => h13 h.2)⟩))))) ?_
          refine rs [(1, .q 1 (0)), (48, .b (decide ((((v0.Kind ≠ (4 : Int)) ∧ (v0.Text ≠ [])) ∨ ((v0.Kind ≠ (3 : Int)) ∧ (v0.Bits ≠ (0 : UInt64)))) ∨ (((v0.Kind ≠ (2 : Int)) ∧ (v0.Kind ≠ (1 : Int))) ∧ (v0.Int_ ≠ (0 : Int))))))] [(1, .pure (GValue.cs v0))] Y Y Y ?_
          exact RunW_nil rfl
        ·iterate 3 (refine r_off rfl rfl rfl rfl (dF h14) rfl rfl ?_)
         refine rn Y Y Y Y qq15 Y (p_pkf Y Y (dF h14) (tb (dF (p := (v0.Kind ≠ (2 : Int)) ∧ (v0.Kind ≠ (1 : Int))) (fun x => h14 x.1)).symm)) ?_
         refine rn Y Y Y Y qq15 Y (p_move Y Y) ?_
         have qq18 := dF (p := (v0.Kind ≠ (2 : Int)) ∧ (v0.Kind ≠ (1 : Int))) (fun h => h14 h.1)
         iterate 3 (refine r_off rfl rfl rfl rfl qq18 rfl rfl ?_)
         refine rn Y Y Y Y qq15 Y (p_pkf Y Y qq18 (tb (dF (p := ((v0.Kind ≠ (2 : Int)) ∧ (v0.Kind ≠ (1 : Int))) ∧ (v0.Int_ ≠ (0 : Int))) (fun x => (fun h => h14 h.1) x.1)).symm)) ?_
         refine rp Y Y (p_pkf Y Y qq15 (tb ((or_l (p := ((v0.Kind ≠ (4 : Int)) ∧ (v0.Text ≠ [])) ∨ ((v0.Kind ≠ (3 : Int)) ∧ (v0.Bits ≠ (0 : UInt64)))) (q := ((v0.Kind ≠ (2 : Int)) ∧ (v0.Kind ≠ (1 : Int))) ∧ (v0.Int_ ≠ (0 : Int))) (not_or.2 ⟨(fun h => h4 h.1), (fun h => h13 h.2)⟩))))) ?_
         refine rs [(1, .q 1 (0)), (48, .b (decide ((((v0.Kind ≠ (4 : Int)) ∧ (v0.Text ≠ [])) ∨ ((v0.Kind ≠ (3 : Int)) ∧ (v0.Bits ≠ (0 : UInt64)))) ∨ (((v0.Kind ≠ (2 : Int)) ∧ (v0.Kind ≠ (1 : Int))) ∧ (v0.Int_ ≠ (0 : Int))))))] [(1, .pure (GValue.cs v0))] Y Y Y ?_
         exact RunW_nil rfl
      ·iterate 3 (refine r_off rfl rfl rfl rfl (dF h12) rfl rfl ?_)
       refine rn Y Y Y Y qq13 Y (p_pkf Y Y (dF h12) (tb (dF (p := (v0.Kind ≠ (3 : Int)) ∧ (v0.Bits ≠ (0 : UInt64))) (fun x => h12 x.1)).symm)) ?_
       refine rp Y Y (p_pkf Y Y qq13 (tb ((or_l (p := (v0.Kind ≠ (4 : Int)) ∧ (v0.Text ≠ [])) (q := (v0.Kind ≠ (3 : Int)) ∧ (v0.Bits ≠ (0 : UInt64))) (fun h => h4 h.1))))) ?_
       refine rp Y Y (p_move Y Y) ?_
       have qq19 := dF (p := ((v0.Kind ≠ (4 : Int)) ∧ (v0.Text ≠ [])) ∨ ((v0.Kind ≠ (3 : Int)) ∧ (v0.Bits ≠ (0 : UInt64)))) (not_or.2 ⟨(fun h => h4 h.1), (fun h => h12 h.1)⟩)
       refine rn Y Y Y Y qq19 Y (u_fa Y Y Tryd.underlying24 Y in_3 nz Y Y (nl (GValue.len v0))) ?_
       refine rn Y Y Y Y qq19 Y (u_ld Y Y Tryd.underlying3 Y Y ((Sub.refl _).trans (GValue.sub0 v0))) ?_
       refine rn Y Y Y Y qq19 Y (p_ine Y Y Y) ?_
       refine rn Y Y Y Y qq19 Y (p_move Y Y) ?_
       refine (Classical.em (v0.Kind ≠ (2 : Int))).elim (fun h16 => ?_) (fun h16 => ?_)
       ·refine r_on Y Y Y Y (dT h16) Y (PureD.opD (u_fa Y Y Tryd.underlying24 Y in_3 nz Y Y (nl (GValue.len v0)))) ?_
        refine r_on Y Y Y Y (dT h16) Y (PureD.opD (u_ld Y Y Tryd.underlying3 Y Y ((Sub.refl _).trans (GValue.sub0 v0)))) ?_
        refine r_on Y Y Y Y (dT h16) Y (PureD.opD (p_ine Y Y Y)) ?_
        refine rn Y Y Y Y qq19 Y (p_pkt Y Y (dT h16) (tb ((and_l (p := v0.Kind ≠ (2 : Int)) (q := v0.Kind ≠ (1 : Int)) h16)))) ?_
        refine rn Y Y Y Y qq19 Y (p_move Y Y) ?_
        refine (Classical.em (v0.Kind ≠ (1 : Int))).elim (fun h17 => ?_) (fun h17 => ?_)
        ·have qq20 := dT (p := (v0.Kind ≠ (2 : Int)) ∧ (v0.Kind ≠ (1 : Int))) ⟨h16, h17⟩
         refine rn Y Y Y Y qq20 Y (u_fa Y Y Tryd.underlying24 Y in_3 nz Y Y (nl (GValue.len v0))) ?_
         refine rn Y Y Y Y qq20 Y (u_ld Y Y Tryd.underlying3 Y Y ((Sub.refl _).trans (GValue.sub1 v0))) ?_
         refine rn Y Y Y Y qq20 Y (p_ine Y Y Y) ?_
         refine rn Y Y Y Y qq19 Y (p_pkt Y Y qq20 (tb ((and_l (p := (v0.Kind ≠ (2 : Int)) ∧ (v0.Kind ≠ (1 : Int))) (q := v0.Int_ ≠ (0 : Int)) ⟨h16, h17⟩)))) ?_
         refine rp Y Y (p_pkf Y Y qq19 (tb ((or_l (p := ((v0.Kind ≠ (4 : Int)) ∧ (v0.Text ≠ [])) ∨ ((v0.Kind ≠ (3 : Int)) ∧ (v0.Bits ≠ (0 : UInt64)))) (q := ((v0.Kind ≠ (2 : Int)) ∧ (v0.Kind ≠ (1 : Int))) ∧ (v0.Int_ ≠ (0 : Int))) (not_or.2 ⟨(fun h => h4 h.1), (fun h => h12 h.1)⟩))))) ?_
         refine rs [(1, .q 1 (0)), (48, .b (decide ((((v0.Kind ≠ (4 : Int)) ∧ (v0.Text ≠ [])) ∨ ((v0.Kind ≠ (3 : Int)) ∧ (v0.Bits ≠ (0 : UInt64)))) ∨ (((v0.Kind ≠ (2 : Int)) ∧ (v0.Kind ≠ (1 : Int))) ∧ (v0.Int_ ≠ (0 : Int))))))] [(1, .pure (GValue.cs v0))] Y Y Y ?_
         exact RunW_nil rfl
        ·have qq21 := dF (p := (v0.Kind ≠ (2 : Int)) ∧ (v0.Kind ≠ (1 : Int))) (fun h => h17 h.2)
         iterate 3 (refine r_off rfl rfl rfl rfl qq21 rfl rfl ?_)
         refine rn Y Y Y Y qq19 Y (p_pkf Y Y qq21 (tb (dF (p := ((v0.Kind ≠ (2 : Int)) ∧ (v0.Kind ≠ (1 : Int))) ∧ (v0.Int_ ≠ (0 : Int))) (fun x => (fun h => h17 h.2) x.1)).symm)) ?_
         refine rp Y Y (p_pkf Y Y qq19 (tb ((or_l (p := ((v0.Kind ≠ (4 : Int)) ∧ (v0.Text ≠ [])) ∨ ((v0.Kind ≠ (3 : Int)) ∧ (v0.Bits ≠ (0 : UInt64)))) (q := ((v0.Kind ≠ (2 : Int)) ∧ (v0.Kind ≠ (1 : Int))) ∧ (v0.Int_ ≠ (0 : Int))) (not_or.2 ⟨(fun h => h4 h.1), (fun h => h12 h.1)⟩))))) ?_
         refine rs [(1, .q 1 (0)), (48, .b (decide ((((v0.Kind ≠ (4 : Int)) ∧ (v0.Text ≠ [])) ∨ ((v0.Kind ≠ (3 : Int)) ∧ (v0.Bits ≠ (0 : UInt64)))) ∨ (((v0.Kind ≠ (2 : Int)) ∧ (v0.Kind ≠ (1 : Int))) ∧ (v0.Int_ ≠ (0 : Int))))))] [(1, .pure (GValue.cs v0))] Y Y Y ?_
         exact RunW_nil rfl
       ·iterate 3 (refine r_off rfl rfl rfl rfl (dF h16) rfl rfl ?_)
        refine rn Y Y Y Y qq19 Y (p_pkf Y Y (dF h16) (tb (dF (p := (v0.Kind ≠ (2 : Int)) ∧ (v0.Kind ≠ (1 : Int))) (fun x => h16 x.1)).symm)) ?_
        refine rn Y Y Y Y qq19 Y (p_move Y Y) ?_
        have qq22 := dF (p := (v0.Kind ≠ (2 : Int)) ∧ (v0.Kind ≠ (1 : Int))) (fun h => h16 h.1)
        iterate 3 (refine r_off rfl rfl rfl rfl qq22 rfl rfl ?_)
        refine rn Y Y Y Y qq19 Y (p_pkf Y Y qq22 (tb (dF (p := ((v0.Kind ≠ (2 : Int)) ∧ (v0.Kind ≠ (1 : Int))) ∧ (v0.Int_ ≠ (0 : Int))) (fun x => (fun h => h16 h.1) x.1)).symm)) ?_
        refine rp Y Y (p_pkf Y Y qq19 (tb ((or_l (p := ((v0.Kind ≠ (4 : Int)) ∧ (v0.Text ≠ [])) ∨ ((v0.Kind ≠ (3 : Int)) ∧ (v0.Bits ≠ (0 : UInt64)))) (q := ((v0.Kind ≠ (2 : Int)) ∧ (v0.Kind ≠ (1 : Int))) ∧ (v0.Int_ ≠ (0 : Int))) (not_or.2 ⟨(fun h => h4 h.1), (fun h => h12 h.1)⟩))))) ?_
        refine rs [(1, .q 1 (0)), (48, .b (decide ((((v0.Kind ≠ (4 : Int)) ∧ (v0.Text ≠ [])) ∨ ((v0.Kind ≠ (3 : Int)) ∧ (v0.Bits ≠ (0 : UInt64)))) ∨ (((v0.Kind ≠ (2 : Int)) ∧ (v0.Kind ≠ (1 : Int))) ∧ (v0.Int_ ≠ (0 : Int))))))] [(1, .pure (GValue.cs v0))] Y Y Y ?_
        exact RunW_nil rfl
    ·refine gen1 (fun t48'1 => (⟨[(1, .q 1 (0)), (48, .b t48'1)], [(1, .pure (GValue.cs v0))], 83⟩ : TS)) H ?_
     intro t48'1 H
     refine AW2_cond Y (fun h18 => ?_) (fun h18 => ?_)
     ·replace H := ite_then h18 H
      refine sg [0] Y ?_
      refine rp Y Y (p_asg Y Y) ?_
      refine rz [(2, .i (3 : Int))] [] Y Y Y ?_
      refine AW2_ret ?_
      have hz := some_elim H
      subst hz
      exact ⟨⟨res_tmp (.same _), trivial⟩, trivial⟩
     ·replace H := ite_else (ne_true h18) H
      refine as2 [(1, .q 1 (0))] [(1, .pure (GValue.cs v0))] Y Y Y ?_
      refine AW2_skip ?_
      refine AW2_seq ?_
      refine bindK H fun o'8 h19 H => ?_
      refine AW2_join (fun j'2 : Unit => (⟨[], [], 83⟩ : TS)) (fun r e s' => e = Go.Exit.ret ∧ ResAll Tryd.prog s' [ResultVar.tmp 2] [.i r] ∧ HFits s' []) (x := o'8) ?_ (fun j'2 hy => ?_) (fun y'7 e s' hy hs => ?_)
      ·clear H
       have H := h19
       clear h19
       refine sg [0, 1] Y ?_
       refine rp Y Y (u_fa Y Y Tryd.underlying24 Y in_3 nz Y Y (nl (GValue.len v0))) ?_
       refine rp Y Y (u_ld Y Y Tryd.underlying3 Y Y ((Sub.refl _).trans (GValue.sub0 v0))) ?_
       refine rz [(1, .q 1 (0)), (50, .i v0.Kind)] [(1, .pure (GValue.cs v0))] Y Y Y ?_
       refine AW2_block ?_
       refine sg [0, 1] Y ?_
       refine rp Y Y (p_ieq Y Y Y) ?_
       refine rp Y Y (p_asg Y Y) ?_
       refine rz [(1, .q 1 (0)), (50, .i v0.Kind), (51, .b (decide (v0.Kind = (1 : Int))))] [(1, .pure (GValue.cs v0))] Y Y Y ?_
       refine AW2_if (p := v0.Kind = (1 : Int)) Y (fun h20 => ?_) (fun h20 => ?_)
       ·replace H := ite_then h20 H
        refine AW2_seq ?_
        refine AW2_mid (⟨[(60, .b (decide ((v0.Int_ ≠ (0 : Int)) ∧ (v0.Int_ ≠ (1 : Int)))))], [], 83⟩ : TS) ?_ ?_
        ·refine AW2_reg [0, 1, 2, 3, 4, 5, 6, 7] Y ?_
         refine rp Y Y (u_fa Y Y Tryd.underlying24 Y in_3 nz Y Y (nl (GValue.len v0))) ?_
         refine rp Y Y (u_ld Y Y Tryd.underlying3 Y Y ((Sub.refl _).trans (GValue.sub1 v0))) ?_
         refine rp Y Y (p_ine Y Y Y) ?_
         refine rp Y Y (p_move Y Y) ?_
         refine (Classical.em (v0.Int_ ≠ (0 : Int))).elim (fun h21 => ?_) (fun h21 => ?_)
         ·refine r_on Y Y Y Y (dT h21) Y (PureD.opD (u_fa Y Y Tryd.underlying24 Y in_3 nz Y Y (nl (GValue.len v0)))) ?_
          refine r_on Y Y Y Y (dT h21) Y (PureD.opD (u_ld Y Y Tryd.underlying3 Y Y ((Sub.refl _).trans (GValue.sub1 v0)))) ?_
          refine r_on Y Y Y Y (dT h21) Y (PureD.opD (p_ine Y Y Y)) ?_
          refine rp Y Y (p_pkt Y Y (dT h21) (tb ((and_l (p := v0.Int_ ≠ (0 : Int)) (q := v0.Int_ ≠ (1 : Int)) h21)))) ?_
          refine rs [(60, .b (decide ((v0.Int_ ≠ (0 : Int)) ∧ (v0.Int_ ≠ (1 : Int)))))] [] Y Y Y ?_
          exact RunW_nil rfl
         ·iterate 3 (refine r_off rfl rfl rfl rfl (dF h21) rfl rfl ?_)
          refine rp Y Y (p_pkf Y Y (dF h21) (tb (dF (p := (v0.Int_ ≠ (0 : Int)) ∧ (v0.Int_ ≠ (1 : Int))) (fun x => h21 x.1)).symm)) ?_
          refine rs [(60, .b (decide ((v0.Int_ ≠ (0 : Int)) ∧ (v0.Int_ ≠ (1 : Int)))))] [] Y Y Y ?_
          exact RunW_nil rfl
        ·refine AW2_if (p := (v0.Int_ ≠ (0 : Int)) ∧ (v0.Int_ ≠ (1 : Int))) Y (fun h22 => ?_) (fun h22 => ?_)
         ·replace H := ite_then h22 H
          refine sg [0] Y ?_
          refine rp Y Y (p_asg Y Y) ?_
          refine rz [(2, .i (3 : Int))] [] Y Y Y ?_
          refine AW2_ret ?_
          have hz := some_elim H
          subst hz
          exact ⟨Y, ⟨res_tmp (.same _), trivial⟩, trivial⟩
         ·replace H := ite_else h22 H
          refine as2 [] [] Y Y Y ?_
          refine AW2_skip ?_
          have hz := some_elim H
          subst hz
          exact ⟨Y, Y⟩
       ·replace H := ite_else h20 H
        refine sg [0, 1] Y ?_
        refine rp Y Y (p_ieq Y Y Y) ?_
        refine rp Y Y (p_asg Y Y) ?_
        refine rz [(1, .q 1 (0)), (50, .i v0.Kind), (61, .b (decide (v0.Kind = (3 : Int))))] [(1, .pure (GValue.cs v0))] Y Y Y ?_
        refine AW2_if (p := v0.Kind = (3 : Int)) Y (fun h23 => ?_) (fun h23 => ?_)
        ·replace H := ite_then h23 H
         refine sg [0, 1, 2, 3] Y ?_
         refine rp Y Y (u_fa Y Y Tryd.underlying24 Y in_22 nz Y Y (nl (GValue.len v0))) ?_
         refine rp Y Y (u_ld Y Y Tryd.underlying22 Y Y ((Sub.refl _).trans (GValue.sub2 v0))) ?_
         refine rp Y Y (p_frombits (a := v0.Bits) Y Y Y Tryd.func38 Y Y (by kernel_rfl) (by kernel_rfl) Y) ?_
         refine rp Y Y (p_asg Y Y) ?_
         refine rz [(3, .p (AV.f64 v0.Bits))] [] Y Y Y ?_
         refine AW2_seq ?_
         refine bindK H fun g'5 h28 H => ?_
         refine AW2_mid (⟨[(76, .b g'5)], [], 83⟩ : TS) ?_ ?_
         ·clear H
          have H := h28
          clear h28
          refine AW2_reg [0, 1, 2, 3, 4, 5, 6, 7, 8, 9, 10] Y ?_
          refine rp Y Y (p_move Y Y) ?_
          refine rp Y Y (p_move Y Y) ?_
          refine rp Y Y (p_fbin (a := v0.Bits) (b := v0.Bits) (v := fneq v0.Bits v0.Bits) Y Y Y Y) ?_
          refine rp Y Y (p_move Y Y) ?_
          refine (Classical.em ((fneq v0.Bits v0.Bits) = true)).elim (fun h25 => ?_) (fun h25 => ?_)
          ·replace H := ite_then h25 H
           iterate 3 (refine r_off rfl rfl rfl rfl h25 rfl rfl ?_)
           iterate 2 (refine r_off2 rfl rfl rfl rfl rfl rfl ?_)
           refine r_off Y Y Y Y h25 Y Y ?_
           refine rp Y Y (p_pkt Y Y h25 (.same _)) ?_
           refine rs [(76, .b true)] [] Y Y Y ?_
           have hz := some_elim H
           subst hz
           exact RunW_nil rfl
          ·replace H := ite_else h25 H
           refine r_on Y Y Y Y (bfalse h25) Y (PureD.opD (p_move Y Y)) ?_
           refine r_on Y Y Y Y (bfalse h25) Y (PureD.opD (p_fbin (a := v0.Bits) (b := (0 : F64)) (v := feq v0.Bits (0 : F64)) Y Y Y Y)) ?_
           refine r_on Y Y Y Y (bfalse h25) Y (PureD.opD (p_move Y Y)) ?_
           refine (Classical.em ((feq v0.Bits (0 : F64)) = true)).elim (fun h26 => ?_) (fun h26 => ?_)
           ·replace H := ite_then h26 H
            refine rn Y Y Y Y h26 Y (p_move Y Y) ?_
            refine bindK H fun r'4 h27 H => ?_
            refine rn Y Y Y Y h26 Y (p_callp Y Y Y Tryd.func39 Y Y (g_math_Signbit_ac h27) ⟨Y, trivial⟩) ?_
            refine r_on Y Y Y Y (bfalse h25) Y (PureD.opD (p_pkt Y Y h26 (.same _))) ?_
            refine rp Y Y (p_pkf Y Y (bfalse h25) (.same _)) ?_
            refine rs [(76, .b r'4)] [] Y Y Y ?_
            have hz := some_elim H
            subst hz
            exact RunW_nil rfl
           ·replace H := ite_else h26 H
            iterate 2 (refine r_off rfl rfl rfl rfl (bfalse h26) rfl rfl ?_)
            refine r_on Y Y Y Y (bfalse h25) Y (PureD.opD (p_pkf Y Y (bfalse h26) (.same _))) ?_
            refine rp Y Y (p_pkf Y Y (bfalse h25) (.same _)) ?_
            refine rs [(76, .b false)] [] Y Y Y ?_
            have hz := some_elim H
            subst hz
            exact RunW_nil rfl
         ·refine AW2_cond Y (fun h29 => ?_) (fun h29 => ?_)
          ·replace H := ite_then h29 H
           refine sg [0] Y ?_
           refine rp Y Y (p_asg Y Y) ?_
           refine rz [(2, .i (3 : Int))] [] Y Y Y ?_
           refine AW2_ret ?_
           have hz := some_elim H
           subst hz
           exact ⟨Y, ⟨res_tmp (.same _), trivial⟩, trivial⟩
          ·replace H := ite_else (ne_true h29) H
           refine as2 [] [] Y Y Y ?_
           refine AW2_skip ?_
           have hz := some_elim H
           subst hz
           exact ⟨Y, Y⟩
        ·replace H := ite_else h23 H
         refine sg [0, 1] Y ?_
         refine rp Y Y (p_ieq Y Y Y) ?_
         refine rp Y Y (p_asg Y Y) ?_
         refine rz [(1, .q 1 (0)), (77, .b (decide (v0.Kind = (4 : Int))))] [(1, .pure (GValue.cs v0))] Y Y Y ?_
         refine AW2_if (p := v0.Kind = (4 : Int)) Y (fun h31 => ?_) (fun h31 => ?_)
         ·replace H := ite_then h31 H
          refine sg [0, 1, 2, 3] Y ?_
          refine rp Y Y (u_fa Y Y Tryd.underlying24 Y in_9 nz Y Y (nl (GValue.len v0))) ?_
          refine rp Y Y (u_ld Y Y Tryd.underlying9 Y Y ((Sub.refl _).trans (GValue.sub3 v0))) ?_
          refine bindK H fun r'6 h32 H => ?_
          refine rp Y Y (p_callp Y Y Y Tryd.func40 Y Y (g_utf8_ValidString_ac h32) ⟨Y, trivial⟩) ?_
          refine rp Y Y (p_not Y Y) ?_
          refine rz [(82, .b (!r'6))] [] Y Y Y ?_
          refine AW2_cond Y (fun h33 => ?_) (fun h33 => ?_)
          ·replace H := ite_then h33 H
           refine sg [0] Y ?_
           refine rp Y Y (p_asg Y Y) ?_
           refine rz [(2, .i (3 : Int))] [] Y Y Y ?_
           refine AW2_ret ?_
           have hz := some_elim H
           subst hz
           exact ⟨Y, ⟨res_tmp (.same _), trivial⟩, trivial⟩
          ·replace H := ite_else (ne_true h33) H
           refine as2 [] [] Y Y Y ?_
           refine AW2_skip ?_
           have hz := some_elim H
           subst hz
           exact ⟨Y, Y⟩
         ·replace H := ite_else h31 H
          refine as2 [] [] Y Y Y ?_
          refine AW2_skip ?_
          have hz := some_elim H
          subst hz
          exact ⟨Y, Y⟩
      ·subst hy
       refine sg [0] Y ?_
       refine rp Y Y (p_asg Y Y) ?_
       refine rz [(2, .i (0 : Int))] [] Y Y Y ?_
       refine AW2_ret ?_
       have hz := some_elim H
       subst hz
       exact ⟨⟨res_tmp (.same _), trivial⟩, trivial⟩
      ·subst hy
       obtain ⟨rfl, hs⟩ := hs
       have hz := some_elim H
       subst hz
       exact ⟨hs.1, hs.2⟩

/-! code.eight -/
noncomputable def g_code_eight_l0 (n0 : UInt64) : Int × (List UInt8) → Option ((Int × (List UInt8)) ⊕ (((List UInt8))))
  | (i4_0, b3_0) => (if i4_0 ≥ (0 : Int) then if 0 ≤ i4_0 then if room (b3_0.length + ([(shr_u64 n0 i4_0.toNat).toUInt8] : List UInt8).length) 1 then some (.inl (w64 (i4_0 - (8 : Int)), b3_0 ++ ([(shr_u64 n0 i4_0.toNat).toUInt8] : List UInt8))) else none else none else some (.inr b3_0))
noncomputable def g_code_eight (n0 : UInt64) : Option ((List UInt8)) :=
  (loopO (g_code_eight_l0 n0) ((56 : Int), ([] : List UInt8))).bind fun y'4 => some y'4
set_option maxHeartbeats 4000000 in
set_option maxRecDepth 100000 in
theorem g_code_eight_ac2 {n0 : UInt64} {r : (List UInt8)} (H : g_code_eight n0 = some r) : AC2 Tryd.prog 71 (pureT [(AV.u64 n0)]) [] (.c (.own 2 r.length 1)) [(2, .pure (bcells r))] := by
 refine AC2_of_body (vs := [.c (.own 2 r.length 1)]) Tryd.func71 Y Y (Nat.le_of_ble_eq_true Y) Y ?_
 unfold g_code_eight at H
 refine as2 [(0, .p (AV.u64 n0))] [] Y Y Y ?_
 refine sg [0] Y ?_
 refine rp Y Y (p_asgn Y) ?_
 refine rz [(0, .p (AV.u64 n0))] [] Y Y Y ?_
 refine sg [0] Y ?_
 refine rp Y Y (p_asgn Y) ?_
 refine rz [(0, .p (AV.u64 n0)), (3, .p .nil)] [] Y Y Y ?_
 refine AW2_seq ?_
 refine sg [0] Y ?_
 refine rp Y Y (p_asg Y Y) ?_
 refine rz [(0, .p (AV.u64 n0)), (3, .p .nil), (4, .i (56 : Int))] [] Y Y Y ?_
 refine AW2_block ?_
 refine as2 [(0, .p (AV.u64 n0)), (3, .p .nil), (4, .i (56 : Int))] [] Y Y Y ?_
 refine AW2_gho (Gho_own (d := 3) (b := 3) (z := 1) Y Y Y Y) ?_
 refine AW2_st [(0, .p (AV.u64 n0)), (3, .c (.own 3 ([] : List UInt8).length 1)), (4, .i (56 : Int))] [(3, .pure (bcells ([] : List UInt8)))] Y ⟨TLes.same _, TLes.own Y, TLes.same _, trivial⟩ ⟨Y, trivial⟩ ?_
 refine bindK H fun y'4 h4 H => ?_
 refine AW2_loopO (fun a'1 : Int × (List UInt8) => (⟨[(0, .p (AV.u64 n0)), (3, .c (.own 3 a'1.2.length 1)), (4, .i a'1.1)], [(3, .pure (bcells a'1.2))], 17⟩ : TS)) (fun (y'2 : ((List UInt8))) e s' => e = Go.Exit.exit 0 ∧ s' = (⟨[(3, .c (.own 3 y'2.length 1))], [(3, .pure (bcells y'2))], 17⟩ : TS)) h4 Y (fun a x hx => ?_) (fun e s' hs => ?_)
 ·clear H
  obtain ⟨i4_0, b3_0⟩ := a
  have H := hx
  clear hx
  unfold g_code_eight_l0 at H
  refine AW2_seq ?_
  refine sg [0, 1] Y ?_
  refine rp Y Y (p_move Y Y) ?_
  refine rp Y Y (p_bin Y Y Y Y) ?_
  refine rz [(0, .p (AV.u64 n0)), (3, .c (.own 3 b3_0.length 1)), (4, .i i4_0), (6, .b (decide (i4_0 ≥ (0 : Int))))] [(3, .pure (bcells b3_0))] Y Y Y ?_
  refine AW2_if (p := i4_0 ≥ (0 : Int)) Y (fun h1 => ?_) (fun h1 => ?_)
  ·replace H := ite_then h1 H
   refine as2 [(0, .p (AV.u64 n0)), (3, .c (.own 3 b3_0.length 1)), (4, .i i4_0)] [(3, .pure (bcells b3_0))] Y Y Y ?_
   refine AW2_skip ?_
   refine AW2_seq ?_
   refine AW2_block ?_
   refine AW2_reg [0, 1, 2, 3, 4, 5, 6, 7] Y ?_
   refine rp Y Y (p_move Y Y) ?_
   refine rp Y Y (p_move Y Y) ?_
   refine rp Y Y (p_move Y Y) ?_
   refine chkK H fun h2 H => ?_
   refine rp Y Y (p_u64shr (n := i4_0.toNat) Y Y Y (Int.toNat_of_nonneg h2).symm) ?_
   refine rp Y Y (p_u64_u8 (a := shr_u64 n0 i4_0.toNat) Y Tryd.underlying22 Tryd.underlying5 Y) ?_
   refine r_op Y Y (MakeD.opD (u_bs 14 Y Tryd.underlying33 in_5 Y one_5 (by decide) (by decide) Y Y Y) Y Y Y Y) ?_
   refine chkK H fun h3 H => ?_
   refine r_op Y Y (u_app [3, 9] Y Y Y Y Tryd.underlying33 Tryd.underlying33 in_5 Y Y Y (bl b3_0) (by decide) (srcT_o Y Y (bl ([(shr_u64 n0 i4_0.toNat).toUInt8] : List UInt8)) (by decide)) (bl ([(shr_u64 n0 i4_0.toNat).toUInt8] : List UInt8)) h3 (by decide) Y Y (bapp b3_0 ([(shr_u64 n0 i4_0.toNat).toUInt8] : List UInt8)) (lapp b3_0 ([(shr_u64 n0 i4_0.toNat).toUInt8] : List UInt8))) ?_
   refine rp Y Y (p_asg Y Y) ?_
   refine rz [(0, .p (AV.u64 n0)), (3, .c (.own 3 (b3_0 ++ ([(shr_u64 n0 i4_0.toNat).toUInt8] : List UInt8)).length 1)), (4, .i i4_0)] [(3, .pure (bcells (b3_0 ++ ([(shr_u64 n0 i4_0.toNat).toUInt8] : List UInt8))))] Y Y Y ?_
   refine AW2_reg [0, 1, 2] Y ?_
   refine rp Y Y (p_move Y Y) ?_
   refine rp Y Y (p_bin Y Y Y Y) ?_
   refine rp Y Y (p_asg Y Y) ?_
   refine rz [(0, .p (AV.u64 n0)), (3, .c (.own 3 (b3_0 ++ ([(shr_u64 n0 i4_0.toNat).toUInt8] : List UInt8)).length 1)), (4, .i (w64 (i4_0 - (8 : Int))))] [(3, .pure (bcells (b3_0 ++ ([(shr_u64 n0 i4_0.toNat).toUInt8] : List UInt8))))] Y Y Y ?_
   have hz := some_elim H
   subst hz
   exact ⟨Y, Y⟩
  ·replace H := ite_else h1 H
   refine as2 [(3, .c (.own 3 b3_0.length 1))] [(3, .pure (bcells b3_0))] Y Y Y ?_
   refine AW2_exit ?_
   refine thenQ2_exit ?_
   have hz := some_elim H
   subst hz
   exact ⟨Y, Y⟩
 ·obtain ⟨rfl, rfl⟩ := hs
  refine ⟨by simp, ?_⟩
  refine blockQ2_exit ?_
  refine sg [0, 1] Y ?_
  refine rp Y Y (p_move Y Y) ?_
  refine rp Y Y (p_asg Y Y) ?_
  refine rs [(2, .c (.own 3 y'4.length 1))] [(3, .pure (bcells y'4))] Y Y Y ?_
  refine RunW_gho (Gho_ren 3 2 Y Y Y Y Y) ?_
  refine rz [(2, .c (.own 2 y'4.length 1))] [(2, .pure (bcells y'4))] Y Y Y ?_
  refine as2 [(2, .c (.own 2 y'4.length 1))] [(2, .pure (bcells y'4))] Y Y Y ?_
  refine AW2_ret ?_
  have hz := some_elim H
  subst hz
  exact ⟨⟨res_tmp (.same _), trivial⟩, ⟨Y, trivial⟩⟩
theorem g_code_eight_ac {n0 : UInt64} {r : (List UInt8)} (H : g_code_eight n0 = some r) : ACp Tryd.prog 71 [(AV.u64 n0)] (AV.bytes r) := ACp_pub (g_code_eight_ac2 H) (fun _ _ hm => lent_own hm rfl (bl r) (by decide))

/-! code.turned -/
noncomputable def g_code_turned (n0 : UInt64) : Option (UInt64) :=
  (if n0 &&& (9223372036854775808 : UInt64) ≠ (0 : UInt64) then some (~~~ n0) else some (n0 ||| (9223372036854775808 : UInt64)))
set_option maxHeartbeats 4000000 in
set_option maxRecDepth 100000 in
theorem g_code_turned_ac {n0 : UInt64} {r : UInt64} (H : g_code_turned n0 = some r) : ACp Tryd.prog 72 [(AV.u64 n0)] (AV.u64 r) := by
 refine ACp_of (AC2_of_body (vs := [.p (AV.u64 r)]) Tryd.func72 Y Y (Nat.le_of_ble_eq_true Y) Y ?_) (fun _ => .same _)
 unfold g_code_turned at H
 refine as2 [(0, .p (AV.u64 n0))] [] Y Y Y ?_
 refine sg [0] Y ?_
 refine rp Y Y (p_asg Y Y) ?_
 refine rz [(0, .p (AV.u64 n0))] [] Y Y Y ?_
 refine AW2_seq ?_
 refine sg [0, 1, 2] Y ?_
 refine rp Y Y (p_move Y Y) ?_
 refine rp Y Y (p_u64and (a := n0) (b := (9223372036854775808 : UInt64)) Y Y Y) ?_
 refine rp Y Y (p_u64ne (a := n0 &&& (9223372036854775808 : UInt64)) (b := (0 : UInt64)) Y Y Y) ?_
 refine rz [(0, .p (AV.u64 n0)), (5, .b (decide (n0 &&& (9223372036854775808 : UInt64) ≠ (0 : UInt64))))] [] Y Y Y ?_
 refine AW2_if (p := n0 &&& (9223372036854775808 : UInt64) ≠ (0 : UInt64)) Y (fun h1 => ?_) (fun h1 => ?_)
 ·replace H := ite_then h1 H
  refine sg [0, 1, 2] Y ?_
  refine rp Y Y (p_move Y Y) ?_
  refine rp Y Y (p_u64cpl Y Y) ?_
  refine rp Y Y (p_asg Y Y) ?_
  refine rz [(2, .p (AV.u64 (~~~ n0)))] [] Y Y Y ?_
  refine AW2_ret ?_
  have hz := some_elim H
  subst hz
  exact ⟨⟨res_tmp (.same _), trivial⟩, trivial⟩
 ·replace H := ite_else h1 H
  refine as2 [(0, .p (AV.u64 n0))] [] Y Y Y ?_
  refine AW2_skip ?_
  refine sg [0, 1, 2] Y ?_
  refine rp Y Y (p_move Y Y) ?_
  refine rp Y Y (p_u64or (a := n0) (b := (9223372036854775808 : UInt64)) Y Y Y) ?_
  refine rp Y Y (p_asg Y Y) ?_
  refine rz [(2, .p (AV.u64 (n0 ||| (9223372036854775808 : UInt64))))] [] Y Y Y ?_
  refine AW2_ret ?_
  have hz := some_elim H
  subst hz
  exact ⟨⟨res_tmp (.same _), trivial⟩, trivial⟩

/-! code.one -/
noncomputable def g_code_one_l0 (v0 : GValue) : Int × (List UInt8) → Option ((Int × (List UInt8)) ⊕ (((List UInt8))))
  | (t42_0, b3_0) => (if t42_0 < (v0.Text.length : Int) then (if 0 ≤ t42_0 ∧ t42_0 < (v0.Text.length : Int) then if room (b3_0.length + ([(lrd v0.Text t42_0.toNat)] : List UInt8).length) 1 then if 0 ≤ t42_0 ∧ t42_0 < (v0.Text.length : Int) then (if (lrd v0.Text t42_0.toNat) = (0 : UInt8) then if room ((b3_0 ++ ([(lrd v0.Text t42_0.toNat)] : List UInt8)).length + ([(255 : UInt8)] : List UInt8).length) 1 then letO ((b3_0 ++ ([(lrd v0.Text t42_0.toNat)] : List UInt8)) ++ ([(255 : UInt8)] : List UInt8)) fun b3'6 => some b3'6 else none else some (b3_0 ++ ([(lrd v0.Text t42_0.toNat)] : List UInt8))) else none else none else none).bind fun j'5 => some (.inl (w64 (t42_0 + (1 : Int)), j'5)) else some (.inr b3_0))
noncomputable def g_code_one (v0 : GValue) : Option ((List UInt8)) :=
  (if v0.Kind = (1 : Int) then if room (([UInt8.ofInt (w64 (v0.Kind + (1 : Int)))] : List UInt8).length + ([UInt8.ofInt v0.Int_] : List UInt8).length) 1 then letO (([UInt8.ofInt (w64 (v0.Kind + (1 : Int)))] : List UInt8) ++ ([UInt8.ofInt v0.Int_] : List UInt8)) fun t2'1 => some t2'1 else none else (if v0.Kind = (2 : Int) then (g_code_eight ((UInt64.ofInt v0.Int_) ^^^ (9223372036854775808 : UInt64))).bind fun r'2 => if room (([UInt8.ofInt (w64 (v0.Kind + (1 : Int)))] : List UInt8).length + r'2.length) 1 then some (([UInt8.ofInt (w64 (v0.Kind + (1 : Int)))] : List UInt8) ++ r'2) else none else (if v0.Kind = (3 : Int) then (g_code_turned v0.Bits).bind fun r'3 => (g_code_eight r'3).bind fun r'4 => if room (([UInt8.ofInt (w64 (v0.Kind + (1 : Int)))] : List UInt8).length + r'4.length) 1 then some (([UInt8.ofInt (w64 (v0.Kind + (1 : Int)))] : List UInt8) ++ r'4) else none else (if v0.Kind = (4 : Int) then (loopO (g_code_one_l0 v0) ((0 : Int), ([UInt8.ofInt (w64 (v0.Kind + (1 : Int)))] : List UInt8))).bind fun y'10 => if room (y'10.length + ([(0 : UInt8), (1 : UInt8)] : List UInt8).length) 1 then some (y'10 ++ ([(0 : UInt8), (1 : UInt8)] : List UInt8)) else none else some ([UInt8.ofInt (w64 (v0.Kind + (1 : Int)))] : List UInt8)))))
set_option maxHeartbeats 4000000 in
set_option maxRecDepth 100000 in
theorem g_code_one_ac2 {v0 : GValue} {r : (List UInt8)} (H : g_code_one v0 = some r) : AC2 Tryd.prog 49 (pureT [(.agg (GValue.cs v0))]) [] (.c (.own 2 r.length 1)) [(2, .pure (bcells r))] := by
 refine AC2_of_body (vs := [.c (.own 2 r.length 1)]) Tryd.func49 Y Y (Nat.le_of_ble_eq_true Y) Y ?_
 unfold g_code_one at H
 refine as2 [(0, .g (GValue.cs v0))] [] Y Y Y ?_
 refine sg [0, 1] Y ?_
 refine r_op Y Y (MakeD.opD (n_box 1 Y Y) Y Y Y Y) ?_
 refine rp Y Y (p_asgn Y) ?_
 refine rz [(1, .q 1 (0))] [(1, .pure (GValue.cs v0))] Y Y Y ?_
 refine sg [0, 1, 2, 3, 4, 5] Y ?_
 refine rp Y Y (u_fa Y Y Tryd.underlying24 Y in_3 nz Y Y (nl (GValue.len v0))) ?_
 refine rp Y Y (u_ld Y Y Tryd.underlying3 Y Y ((Sub.refl _).trans (GValue.sub0 v0))) ?_
 refine rp Y Y (p_bin Y Y Y Y) ?_
 refine rp Y Y (p_i_u8 Y Tryd.underlying3 Tryd.underlying5 Y) ?_
 refine r_op Y Y (MakeD.opD (u_bs 9 Y Tryd.underlying33 in_5 Y one_5 (by decide) (by decide) Y Y Y) Y Y Y Y) ?_
 refine rp Y Y (p_asg Y Y) ?_
 refine RunW_st [(1, .q 1 (0)), (3, .c (.own 9 ([UInt8.ofInt (w64 (v0.Kind + (1 : Int)))] : List UInt8).length 1))] [(1, .pure (GValue.cs v0)), (9, .pure (bcells ([UInt8.ofInt (w64 (v0.Kind + (1 : Int)))] : List UInt8)))] Y ⟨TLes.same _, TLes.own Y, trivial⟩ ⟨Y, Y, trivial⟩ ?_
 refine RunW_gho (Gho_ren 9 3 Y Y Y Y Y) ?_
 refine rz [(1, .q 1 (0)), (3, .c (.own 3 ([UInt8.ofInt (w64 (v0.Kind + (1 : Int)))] : List UInt8).length 1))] [(1, .pure (GValue.cs v0)), (3, .pure (bcells ([UInt8.ofInt (w64 (v0.Kind + (1 : Int)))] : List UInt8)))] Y Y Y ?_
 refine AW2_seq ?_
 refine sg [0, 1] Y ?_
 refine rp Y Y (u_fa Y Y Tryd.underlying24 Y in_3 nz Y Y (nl (GValue.len v0))) ?_
 refine rp Y Y (u_ld Y Y Tryd.underlying3 Y Y ((Sub.refl _).trans (GValue.sub0 v0))) ?_
 refine rz [(1, .q 1 (0)), (3, .c (.own 3 ([UInt8.ofInt (w64 (v0.Kind + (1 : Int)))] : List UInt8).length 1)), (11, .i v0.Kind)] [(1, .pure (GValue.cs v0)), (3, .pure (bcells ([UInt8.ofInt (w64 (v0.Kind + (1 : Int)))] : List UInt8)))] Y Y Y ?_
 refine AW2_block ?_
 refine sg [0, 1] Y ?_
 refine rp Y Y (p_ieq Y Y Y) ?_
 refine rp Y Y (p_asg Y Y) ?_
 refine rz [(1, .q 1 (0)), (3, .c (.own 3 ([UInt8.ofInt (w64 (v0.Kind + (1 : Int)))] : List UInt8).length 1)), (11, .i v0.Kind), (12, .b (decide (v0.Kind = (1 : Int))))] [(1, .pure (GValue.cs v0)), (3, .pure (bcells ([UInt8.ofInt (w64 (v0.Kind + (1 : Int)))] : List UInt8)))] Y Y Y ?_
 refine AW2_if (p := v0.Kind = (1 : Int)) Y (fun h1 => ?_) (fun h1 => ?_)
 ·replace H := ite_then h1 H
  refine sg [0, 1, 2, 3, 4, 5, 6] Y ?_
  refine rp Y Y (p_move Y Y) ?_
  refine rp Y Y (u_fa Y Y Tryd.underlying24 Y in_3 nz Y Y (nl (GValue.len v0))) ?_
  refine rp Y Y (u_ld Y Y Tryd.underlying3 Y Y ((Sub.refl _).trans (GValue.sub1 v0))) ?_
  refine rp Y Y (p_i_u8 Y Tryd.underlying3 Tryd.underlying5 Y) ?_
  refine r_op Y Y (MakeD.opD (u_bs 18 Y Tryd.underlying33 in_5 Y one_5 (by decide) (by decide) Y Y Y) Y Y Y Y) ?_
  refine chkK H fun h2 H => ?_
  refine r_op Y Y (u_app [3, 14] Y Y Y Y Tryd.underlying33 Tryd.underlying33 in_5 Y Y Y (bl ([UInt8.ofInt (w64 (v0.Kind + (1 : Int)))] : List UInt8)) (by decide) (srcT_o Y Y (bl ([UInt8.ofInt v0.Int_] : List UInt8)) (by decide)) (bl ([UInt8.ofInt v0.Int_] : List UInt8)) h2 (by decide) Y Y (bapp ([UInt8.ofInt (w64 (v0.Kind + (1 : Int)))] : List UInt8) ([UInt8.ofInt v0.Int_] : List UInt8)) (lapp ([UInt8.ofInt (w64 (v0.Kind + (1 : Int)))] : List UInt8) ([UInt8.ofInt v0.Int_] : List UInt8))) ?_
  refine rp Y Y (p_asg Y Y) ?_
  refine rs [(2, .c (.own 3 (([UInt8.ofInt (w64 (v0.Kind + (1 : Int)))] : List UInt8) ++ ([UInt8.ofInt v0.Int_] : List UInt8)).length 1))] [(3, .pure (bcells (([UInt8.ofInt (w64 (v0.Kind + (1 : Int)))] : List UInt8) ++ ([UInt8.ofInt v0.Int_] : List UInt8))))] Y Y Y ?_
  refine RunW_gho (Gho_ren 3 2 Y Y Y Y Y) ?_
  refine rz [(2, .c (.own 2 (([UInt8.ofInt (w64 (v0.Kind + (1 : Int)))] : List UInt8) ++ ([UInt8.ofInt v0.Int_] : List UInt8)).length 1))] [(2, .pure (bcells (([UInt8.ofInt (w64 (v0.Kind + (1 : Int)))] : List UInt8) ++ ([UInt8.ofInt v0.Int_] : List UInt8))))] Y Y Y ?_
  refine gen1 (fun t2'1 => (⟨[(2, .c (.own 2 t2'1.length 1))], [(2, .pure (bcells t2'1))], 65⟩ : TS)) H ?_
  intro t2'1 H
  refine as2 [(2, .c (.own 2 t2'1.length 1))] [(2, .pure (bcells t2'1))] Y Y Y ?_
  refine AW2_ret ?_
  have hz := some_elim H
  subst hz
  exact ⟨⟨res_tmp (.same _), trivial⟩, ⟨Y, trivial⟩⟩
 ·replace H := ite_else h1 H
  refine sg [0, 1] Y ?_
  refine rp Y Y (p_ieq Y Y Y) ?_
  refine rp Y Y (p_asg Y Y) ?_
  refine rz [(1, .q 1 (0)), (3, .c (.own 3 ([UInt8.ofInt (w64 (v0.Kind + (1 : Int)))] : List UInt8).length 1)), (11, .i v0.Kind), (20, .b (decide (v0.Kind = (2 : Int))))] [(1, .pure (GValue.cs v0)), (3, .pure (bcells ([UInt8.ofInt (w64 (v0.Kind + (1 : Int)))] : List UInt8)))] Y Y Y ?_
  refine AW2_if (p := v0.Kind = (2 : Int)) Y (fun h3 => ?_) (fun h3 => ?_)
  ·replace H := ite_then h3 H
   refine sg [0, 1, 2, 3, 4, 5, 6, 7] Y ?_
   refine rp Y Y (p_move Y Y) ?_
   refine rp Y Y (u_fa Y Y Tryd.underlying24 Y in_3 nz Y Y (nl (GValue.len v0))) ?_
   refine rp Y Y (u_ld Y Y Tryd.underlying3 Y Y ((Sub.refl _).trans (GValue.sub1 v0))) ?_
   refine rp Y Y (p_i_u64 Y Tryd.underlying3 Tryd.underlying22 Y) ?_
   refine rp Y Y (p_u64xor (a := UInt64.ofInt v0.Int_) (b := (9223372036854775808 : UInt64)) Y Y Y) ?_
   refine bindK H fun r'2 h4 H => ?_
   refine rp Y Y (p_callp Y Y Y Tryd.func71 Y Y (g_code_eight_ac h4) ⟨Y, trivial⟩) ?_
   refine chkK H fun h5 H => ?_
   refine r_op Y Y (u_app [3, 22] Y Y Y Y Tryd.underlying33 Tryd.underlying33 in_5 Y Y Y (bl ([UInt8.ofInt (w64 (v0.Kind + (1 : Int)))] : List UInt8)) (by decide) Y (bl r'2) h5 (by decide) Y Y (bapp ([UInt8.ofInt (w64 (v0.Kind + (1 : Int)))] : List UInt8) r'2) (lapp ([UInt8.ofInt (w64 (v0.Kind + (1 : Int)))] : List UInt8) r'2)) ?_
   refine rp Y Y (p_asg Y Y) ?_
   refine rs [(2, .c (.own 3 (([UInt8.ofInt (w64 (v0.Kind + (1 : Int)))] : List UInt8) ++ r'2).length 1))] [(3, .pure (bcells (([UInt8.ofInt (w64 (v0.Kind + (1 : Int)))] : List UInt8) ++ r'2)))] Y Y Y ?_
   refine RunW_gho (Gho_ren 3 2 Y Y Y Y Y) ?_
   refine rz [(2, .c (.own 2 (([UInt8.ofInt (w64 (v0.Kind + (1 : Int)))] : List UInt8) ++ r'2).length 1))] [(2, .pure (bcells (([UInt8.ofInt (w64 (v0.Kind + (1 : Int)))] : List UInt8) ++ r'2)))] Y Y Y ?_
   refine as2 [(2, .c (.own 2 (([UInt8.ofInt (w64 (v0.Kind + (1 : Int)))] : List UInt8) ++ r'2).length 1))] [(2, .pure (bcells (([UInt8.ofInt (w64 (v0.Kind + (1 : Int)))] : List UInt8) ++ r'2)))] Y Y Y ?_
   refine AW2_ret ?_
   have hz := some_elim H
   subst hz
   exact ⟨⟨res_tmp (.same _), trivial⟩, ⟨Y, trivial⟩⟩
  ·replace H := ite_else h3 H
   refine sg [0, 1] Y ?_
   refine rp Y Y (p_ieq Y Y Y) ?_
   refine rp Y Y (p_asg Y Y) ?_
   refine rz [(1, .q 1 (0)), (3, .c (.own 3 ([UInt8.ofInt (w64 (v0.Kind + (1 : Int)))] : List UInt8).length 1)), (11, .i v0.Kind), (29, .b (decide (v0.Kind = (3 : Int))))] [(1, .pure (GValue.cs v0)), (3, .pure (bcells ([UInt8.ofInt (w64 (v0.Kind + (1 : Int)))] : List UInt8)))] Y Y Y ?_
   refine AW2_if (p := v0.Kind = (3 : Int)) Y (fun h6 => ?_) (fun h6 => ?_)
   ·replace H := ite_then h6 H
    refine sg [0, 1, 2, 3, 4, 5, 6] Y ?_
    refine rp Y Y (p_move Y Y) ?_
    refine rp Y Y (u_fa Y Y Tryd.underlying24 Y in_22 nz Y Y (nl (GValue.len v0))) ?_
    refine rp Y Y (u_ld Y Y Tryd.underlying22 Y Y ((Sub.refl _).trans (GValue.sub2 v0))) ?_
    refine bindK H fun r'3 h7 H => ?_
    refine rp Y Y (p_callp Y Y Y Tryd.func72 Y Y (g_code_turned_ac h7) ⟨Y, trivial⟩) ?_
    refine bindK H fun r'4 h8 H => ?_
    refine rp Y Y (p_callp Y Y Y Tryd.func71 Y Y (g_code_eight_ac h8) ⟨Y, trivial⟩) ?_
    refine chkK H fun h9 H => ?_
    refine r_op Y Y (u_app [3, 31] Y Y Y Y Tryd.underlying33 Tryd.underlying33 in_5 Y Y Y (bl ([UInt8.ofInt (w64 (v0.Kind + (1 : Int)))] : List UInt8)) (by decide) Y (bl r'4) h9 (by decide) Y Y (bapp ([UInt8.ofInt (w64 (v0.Kind + (1 : Int)))] : List UInt8) r'4) (lapp ([UInt8.ofInt (w64 (v0.Kind + (1 : Int)))] : List UInt8) r'4)) ?_
    refine rp Y Y (p_asg Y Y) ?_
    refine rs [(2, .c (.own 3 (([UInt8.ofInt (w64 (v0.Kind + (1 : Int)))] : List UInt8) ++ r'4).length 1))] [(3, .pure (bcells (([UInt8.ofInt (w64 (v0.Kind + (1 : Int)))] : List UInt8) ++ r'4)))] Y Y Y ?_
    refine RunW_gho (Gho_ren 3 2 Y Y Y Y Y) ?_
    refine rz [(2, .c (.own 2 (([UInt8.ofInt (w64 (v0.Kind + (1 : Int)))] : List UInt8) ++ r'4).length 1))] [(2, .pure (bcells (([UInt8.ofInt (w64 (v0.Kind + (1 : Int)))] : List UInt8) ++ r'4)))] Y Y Y ?_
    refine as2 [(2, .c (.own 2 (([UInt8.ofInt (w64 (v0.Kind + (1 : Int)))] : List UInt8) ++ r'4).length 1))] [(2, .pure (bcells (([UInt8.ofInt (w64 (v0.Kind + (1 : Int)))] : List UInt8) ++ r'4)))] Y Y Y ?_
    refine AW2_ret ?_
    have hz := some_elim H
    subst hz
    exact ⟨⟨res_tmp (.same _), trivial⟩, ⟨Y, trivial⟩⟩
   ·replace H := ite_else h6 H
    refine sg [0, 1] Y ?_
    refine rp Y Y (p_ieq Y Y Y) ?_
    refine rp Y Y (p_asg Y Y) ?_
    refine rz [(1, .q 1 (0)), (3, .c (.own 3 ([UInt8.ofInt (w64 (v0.Kind + (1 : Int)))] : List UInt8).length 1)), (37, .b (decide (v0.Kind = (4 : Int))))] [(1, .pure (GValue.cs v0)), (3, .pure (bcells ([UInt8.ofInt (w64 (v0.Kind + (1 : Int)))] : List UInt8)))] Y Y Y ?_
    refine AW2_if (p := v0.Kind = (4 : Int)) Y (fun h10 => ?_) (fun h10 => ?_)
    ·replace H := ite_then h10 H
     refine AW2_seq ?_
     refine sg [0, 1, 2, 3] Y ?_
     refine rp Y Y (u_fa Y Y Tryd.underlying24 Y in_9 nz Y Y (nl (GValue.len v0))) ?_
     refine rp Y Y (u_ld Y Y Tryd.underlying9 Y Y ((Sub.refl _).trans (GValue.sub3 v0))) ?_
     refine rp Y Y (p_lent Y Tryd.underlying9 Y) ?_
     refine rp Y Y (p_move Y Y) ?_
     refine rz [(1, .q 1 (0)), (3, .c (.own 3 ([UInt8.ofInt (w64 (v0.Kind + (1 : Int)))] : List UInt8).length 1)), (41, .i (v0.Text.length : Int)), (42, .i (0 : Int))] [(1, .pure (GValue.cs v0)), (3, .pure (bcells ([UInt8.ofInt (w64 (v0.Kind + (1 : Int)))] : List UInt8)))] Y Y Y ?_
     refine AW2_block ?_
     refine as2 [(1, .q 1 (0)), (3, .c (.own 3 ([UInt8.ofInt (w64 (v0.Kind + (1 : Int)))] : List UInt8).length 1)), (41, .i (v0.Text.length : Int)), (42, .i (0 : Int))] [(1, .pure (GValue.cs v0)), (3, .pure (bcells ([UInt8.ofInt (w64 (v0.Kind + (1 : Int)))] : List UInt8)))] Y Y Y ?_
     refine bindK H fun y'10 h18 H => ?_
     refine AW2_loopO (fun a'7 : Int × (List UInt8) => (⟨[(1, .q 1 (0)), (3, .c (.own 3 a'7.2.length 1)), (41, .i (v0.Text.length : Int)), (42, .i a'7.1)], [(1, .pure (GValue.cs v0)), (3, .pure (bcells a'7.2))], 65⟩ : TS)) (fun (y'8 : ((List UInt8))) e s' => e = Go.Exit.exit 1 ∧ s' = (⟨[(3, .c (.own 3 y'8.length 1))], [(3, .pure (bcells y'8))], 65⟩ : TS)) h18 Y (fun a x hx => ?_) (fun e s' hs => ?_)
     ·clear H
      obtain ⟨t42_0, b3_0⟩ := a
      have H := hx
      clear hx
      unfold g_code_one_l0 at H
      refine sg [0] Y ?_
      refine rp Y Y (p_bin Y Y Y Y) ?_
      refine rz [(1, .q 1 (0)), (3, .c (.own 3 b3_0.length 1)), (41, .i (v0.Text.length : Int)), (42, .i t42_0), (43, .b (decide (t42_0 < (v0.Text.length : Int))))] [(1, .pure (GValue.cs v0)), (3, .pure (bcells b3_0))] Y Y Y ?_
      refine AW2_seq ?_
      refine AW2_if (p := t42_0 < (v0.Text.length : Int)) Y (fun h11 => ?_) (fun h11 => ?_)
      ·replace H := ite_then h11 H
       refine as2 [(1, .q 1 (0)), (3, .c (.own 3 b3_0.length 1)), (41, .i (v0.Text.length : Int)), (42, .i t42_0)] [(1, .pure (GValue.cs v0)), (3, .pure (bcells b3_0))] Y Y Y ?_
       refine AW2_skip ?_
       refine AW2_seq ?_
       refine bindK H fun j'5 h12 H => ?_
       refine AW2_mid (⟨[(1, .q 1 (0)), (3, .c (.own 3 j'5.length 1)), (41, .i (v0.Text.length : Int)), (42, .i t42_0)], [(1, .pure (GValue.cs v0)), (3, .pure (bcells j'5))], 65⟩ : TS) ?_ ?_
       ·clear H
        have H := h12
        clear h12
        refine AW2_block ?_
        refine sg [0, 1] Y ?_
        refine rp Y Y (p_move Y Y) ?_
        refine rp Y Y (p_asg Y Y) ?_
        refine rz [(1, .q 1 (0)), (3, .c (.own 3 b3_0.length 1)), (4, .i t42_0), (41, .i (v0.Text.length : Int)), (42, .i t42_0)] [(1, .pure (GValue.cs v0)), (3, .pure (bcells b3_0))] Y Y Y ?_
        refine sg [0, 1, 2, 3, 4, 5, 6, 7] Y ?_
        refine rp Y Y (p_move Y Y) ?_
        refine rp Y Y (u_fa Y Y Tryd.underlying24 Y in_9 nz Y Y (nl (GValue.len v0))) ?_
        refine rp Y Y (u_ld Y Y Tryd.underlying9 Y Y ((Sub.refl _).trans (GValue.sub3 v0))) ?_
        refine rp Y Y (p_move Y Y) ?_
        refine chkK H fun h13 H => ?_
        refine rp Y Y (p_ixt Y Tryd.underlying9 Y Y (ixe h13) (lrd_get (ixn h13))) ?_
        refine r_op Y Y (MakeD.opD (u_bs 50 Y Tryd.underlying33 in_5 Y one_5 (by decide) (by decide) Y Y Y) Y Y Y Y) ?_
        refine chkK H fun h14 H => ?_
        refine r_op Y Y (u_app [3, 45] Y Y Y Y Tryd.underlying33 Tryd.underlying33 in_5 Y Y Y (bl b3_0) (by decide) (srcT_o Y Y (bl ([(lrd v0.Text t42_0.toNat)] : List UInt8)) (by decide)) (bl ([(lrd v0.Text t42_0.toNat)] : List UInt8)) h14 (by decide) Y Y (bapp b3_0 ([(lrd v0.Text t42_0.toNat)] : List UInt8)) (lapp b3_0 ([(lrd v0.Text t42_0.toNat)] : List UInt8))) ?_
        refine rp Y Y (p_asg Y Y) ?_
        refine rz [(1, .q 1 (0)), (3, .c (.own 3 (b3_0 ++ ([(lrd v0.Text t42_0.toNat)] : List UInt8)).length 1)), (4, .i t42_0), (41, .i (v0.Text.length : Int)), (42, .i t42_0)] [(1, .pure (GValue.cs v0)), (3, .pure (bcells (b3_0 ++ ([(lrd v0.Text t42_0.toNat)] : List UInt8))))] Y Y Y ?_
        refine sg [0, 1, 2, 3, 4] Y ?_
        refine rp Y Y (u_fa Y Y Tryd.underlying24 Y in_9 nz Y Y (nl (GValue.len v0))) ?_
        refine rp Y Y (u_ld Y Y Tryd.underlying9 Y Y ((Sub.refl _).trans (GValue.sub3 v0))) ?_
        refine rp Y Y (p_move Y Y) ?_
        refine chkK H fun h15 H => ?_
        refine rp Y Y (p_ixt Y Tryd.underlying9 Y Y (ixe h15) (lrd_get (ixn h15))) ?_
        refine rp Y Y (p_u8eq (a := (lrd v0.Text t42_0.toNat)) (b := (0 : UInt8)) Y Y Y) ?_
        refine rz [(1, .q 1 (0)), (3, .c (.own 3 (b3_0 ++ ([(lrd v0.Text t42_0.toNat)] : List UInt8)).length 1)), (41, .i (v0.Text.length : Int)), (42, .i t42_0), (56, .b (decide ((lrd v0.Text t42_0.toNat) = (0 : UInt8))))] [(1, .pure (GValue.cs v0)), (3, .pure (bcells (b3_0 ++ ([(lrd v0.Text t42_0.toNat)] : List UInt8))))] Y Y Y ?_
        refine AW2_if (p := (lrd v0.Text t42_0.toNat) = (0 : UInt8)) Y (fun h16 => ?_) (fun h16 => ?_)
        ·replace H := ite_then h16 H
         refine AW2_reg [0, 1, 2, 3] Y ?_
         refine rp Y Y (p_move Y Y) ?_
         refine r_op Y Y (MakeD.opD (u_bs 58 Y Tryd.underlying33 in_5 Y one_5 (by decide) (by decide) Y Y Y) Y Y Y Y) ?_
         refine chkK H fun h17 H => ?_
         refine r_op Y Y (u_app [3, 57] Y Y Y Y Tryd.underlying33 Tryd.underlying33 in_5 Y Y Y (bl (b3_0 ++ ([(lrd v0.Text t42_0.toNat)] : List UInt8))) (by decide) (srcT_o Y Y (bl ([(255 : UInt8)] : List UInt8)) (by decide)) (bl ([(255 : UInt8)] : List UInt8)) h17 (by decide) Y Y (bapp (b3_0 ++ ([(lrd v0.Text t42_0.toNat)] : List UInt8)) ([(255 : UInt8)] : List UInt8)) (lapp (b3_0 ++ ([(lrd v0.Text t42_0.toNat)] : List UInt8)) ([(255 : UInt8)] : List UInt8))) ?_
         refine rp Y Y (p_asg Y Y) ?_
         refine rz [(1, .q 1 (0)), (3, .c (.own 3 ((b3_0 ++ ([(lrd v0.Text t42_0.toNat)] : List UInt8)) ++ ([(255 : UInt8)] : List UInt8)).length 1)), (41, .i (v0.Text.length : Int)), (42, .i t42_0)] [(1, .pure (GValue.cs v0)), (3, .pure (bcells ((b3_0 ++ ([(lrd v0.Text t42_0.toNat)] : List UInt8)) ++ ([(255 : UInt8)] : List UInt8))))] Y Y Y ?_
         refine gen1 (fun b3'6 => (⟨[(1, .q 1 (0)), (3, .c (.own 3 b3'6.length 1)), (41, .i (v0.Text.length : Int)), (42, .i t42_0)], [(1, .pure (GValue.cs v0)), (3, .pure (bcells b3'6))], 65⟩ : TS)) H ?_
         intro b3'6 H
         have hz := some_elim H
         subst hz
         exact rfl
        ·replace H := ite_else h16 H
         refine as2 [(1, .q 1 (0)), (3, .c (.own 3 (b3_0 ++ ([(lrd v0.Text t42_0.toNat)] : List UInt8)).length 1)), (41, .i (v0.Text.length : Int)), (42, .i t42_0)] [(1, .pure (GValue.cs v0)), (3, .pure (bcells (b3_0 ++ ([(lrd v0.Text t42_0.toNat)] : List UInt8))))] Y Y Y ?_
         refine AW2_skip ?_
         have hz := some_elim H
         subst hz
         exact rfl
       ·refine AW2_reg [0, 1] Y ?_
        refine rp Y Y (p_bin Y Y Y Y) ?_
        refine rp Y Y (p_move Y Y) ?_
        refine rz [(1, .q 1 (0)), (3, .c (.own 3 j'5.length 1)), (41, .i (v0.Text.length : Int)), (42, .i (w64 (t42_0 + (1 : Int))))] [(1, .pure (GValue.cs v0)), (3, .pure (bcells j'5))] Y Y Y ?_
        have hz := some_elim H
        subst hz
        exact ⟨Y, Y⟩
      ·replace H := ite_else h11 H
       refine as2 [(3, .c (.own 3 b3_0.length 1))] [(3, .pure (bcells b3_0))] Y Y Y ?_
       refine AW2_exit ?_
       refine thenQ2_exit ?_
       have hz := some_elim H
       subst hz
       exact ⟨Y, Y⟩
     ·obtain ⟨rfl, rfl⟩ := hs
      refine ⟨by simp, ?_⟩
      refine blockQ2_exit ?_
      refine sg [0, 1, 2, 3] Y ?_
      refine rp Y Y (p_move Y Y) ?_
      refine r_op Y Y (MakeD.opD (u_bs 62 Y Tryd.underlying33 in_5 Y one_5 (by decide) (by decide) Y Y Y) Y Y Y Y) ?_
      refine chkK H fun h19 H => ?_
      refine r_op Y Y (u_app [3, 61] Y Y Y Y Tryd.underlying33 Tryd.underlying33 in_5 Y Y Y (bl y'10) (by decide) (srcT_o Y Y (bl ([(0 : UInt8), (1 : UInt8)] : List UInt8)) (by decide)) (bl ([(0 : UInt8), (1 : UInt8)] : List UInt8)) h19 (by decide) Y Y (bapp y'10 ([(0 : UInt8), (1 : UInt8)] : List UInt8)) (lapp y'10 ([(0 : UInt8), (1 : UInt8)] : List UInt8))) ?_
      refine rp Y Y (p_asg Y Y) ?_
      refine rs [(2, .c (.own 3 (y'10 ++ ([(0 : UInt8), (1 : UInt8)] : List UInt8)).length 1))] [(3, .pure (bcells (y'10 ++ ([(0 : UInt8), (1 : UInt8)] : List UInt8))))] Y Y Y ?_
      refine RunW_gho (Gho_ren 3 2 Y Y Y Y Y) ?_
      refine rz [(2, .c (.own 2 (y'10 ++ ([(0 : UInt8), (1 : UInt8)] : List UInt8)).length 1))] [(2, .pure (bcells (y'10 ++ ([(0 : UInt8), (1 : UInt8)] : List UInt8))))] Y Y Y ?_
      refine as2 [(2, .c (.own 2 (y'10 ++ ([(0 : UInt8), (1 : UInt8)] : List UInt8)).length 1))] [(2, .pure (bcells (y'10 ++ ([(0 : UInt8), (1 : UInt8)] : List UInt8))))] Y Y Y ?_
      refine AW2_ret ?_
      have hz := some_elim H
      subst hz
      exact ⟨⟨res_tmp (.same _), trivial⟩, ⟨Y, trivial⟩⟩
    ·replace H := ite_else h10 H
     refine as2 [(3, .c (.own 3 ([UInt8.ofInt (w64 (v0.Kind + (1 : Int)))] : List UInt8).length 1))] [(3, .pure (bcells ([UInt8.ofInt (w64 (v0.Kind + (1 : Int)))] : List UInt8)))] Y Y Y ?_
     refine AW2_skip ?_
     refine sg [0, 1] Y ?_
     refine rp Y Y (p_move Y Y) ?_
     refine rp Y Y (p_asg Y Y) ?_
     refine rs [(2, .c (.own 3 ([UInt8.ofInt (w64 (v0.Kind + (1 : Int)))] : List UInt8).length 1))] [(3, .pure (bcells ([UInt8.ofInt (w64 (v0.Kind + (1 : Int)))] : List UInt8)))] Y Y Y ?_
     refine RunW_gho (Gho_ren 3 2 Y Y Y Y Y) ?_
     refine rz [(2, .c (.own 2 ([UInt8.ofInt (w64 (v0.Kind + (1 : Int)))] : List UInt8).length 1))] [(2, .pure (bcells ([UInt8.ofInt (w64 (v0.Kind + (1 : Int)))] : List UInt8)))] Y Y Y ?_
     refine as2 [(2, .c (.own 2 ([UInt8.ofInt (w64 (v0.Kind + (1 : Int)))] : List UInt8).length 1))] [(2, .pure (bcells ([UInt8.ofInt (w64 (v0.Kind + (1 : Int)))] : List UInt8)))] Y Y Y ?_
     refine AW2_ret ?_
     have hz := some_elim H
     subst hz
     exact ⟨⟨res_tmp (.same _), trivial⟩, ⟨Y, trivial⟩⟩
theorem g_code_one_ac {v0 : GValue} {r : (List UInt8)} (H : g_code_one v0 = some r) : ACp Tryd.prog 49 [(.agg (GValue.cs v0))] (AV.bytes r) := ACp_pub (g_code_one_ac2 H) (fun _ _ hm => lent_own hm rfl (bl r) (by decide))
end Go.Proofs.YtfekkhinjdmcbaaDoor.VM
