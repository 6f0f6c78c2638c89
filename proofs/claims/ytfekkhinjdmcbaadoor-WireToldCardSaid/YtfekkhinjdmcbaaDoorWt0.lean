/- Functions of the program, as they answer, and that their code comes to these answers. -/
import Derived.Test.YtfekkhinjdmcbaaDoorVtTabs
import Derived.Test.YtfekkhinjdmcbaaDoorVtFloat
namespace Go.Proofs.YtfekkhinjdmcbaaDoor.VM
open Go Go.RowKit

structure Gutf8_acceptRange where
  lo_ : UInt8
  hi_ : UInt8
deriving DecidableEq, Inhabited
def Gutf8_acceptRange.zero : Gutf8_acceptRange := ⟨(0 : UInt8), (0 : UInt8)⟩
def Gutf8_acceptRange.cs (x : Gutf8_acceptRange) : List AV := ([(AV.b8 x.lo_)]) ++ ([(AV.b8 x.hi_)])
theorem Gutf8_acceptRange.len (x : Gutf8_acceptRange) : (Gutf8_acceptRange.cs x).length = 2 := by
  simp only [Gutf8_acceptRange.cs, List.length_append]
  rw [show ([(AV.b8 x.lo_)]).length = 1 from (show ([(AV.b8 x.lo_)]).length = 1 from rfl), show ([(AV.b8 x.hi_)]).length = 1 from (show ([(AV.b8 x.hi_)]).length = 1 from rfl)]
theorem Gutf8_acceptRange.sub0 (x : Gutf8_acceptRange) : Sub (Gutf8_acceptRange.cs x) 0 ([(AV.b8 x.lo_)]) := Sub.head _ _
abbrev Gutf8_acceptRange.w0 (x : Gutf8_acceptRange) (y : UInt8) : Gutf8_acceptRange := { x with lo_ := y }
theorem Gutf8_acceptRange.upd0 (x : Gutf8_acceptRange) (y : UInt8) : Upd (Gutf8_acceptRange.cs x) 0 ([(AV.b8 y)]) (Gutf8_acceptRange.cs { x with lo_ := y }) := Upd.head (show ([(AV.b8 y)]).length = ([(AV.b8 x.lo_)]).length from rfl)
theorem Gutf8_acceptRange.sub1 (x : Gutf8_acceptRange) : Sub (Gutf8_acceptRange.cs x) 1 ([(AV.b8 x.hi_)]) := Sub.skip (k := 1) (show ([(AV.b8 x.lo_)]).length = 1 from rfl) (Sub.refl _)
abbrev Gutf8_acceptRange.w1 (x : Gutf8_acceptRange) (y : UInt8) : Gutf8_acceptRange := { x with hi_ := y }
theorem Gutf8_acceptRange.upd1 (x : Gutf8_acceptRange) (y : UInt8) : Upd (Gutf8_acceptRange.cs x) 1 ([(AV.b8 y)]) (Gutf8_acceptRange.cs { x with hi_ := y }) := Upd.skip (k := 1) (show ([(AV.b8 x.lo_)]).length = 1 from rfl) (Upd.refl (show ([(AV.b8 y)]).length = ([(AV.b8 x.hi_)]).length from rfl))
theorem Gutf8_acceptRange.nl (x : Gutf8_acceptRange) : (Gutf8_acceptRange.cs x).all noLst1 = true := nlA rfl (rfl)
theorem in_5 : Info Tryd.prog 5 1 1 (.int .u8 0) := by unfold Info; kernel_rfl
theorem one_5 : (.int .u8 0 : Value).cells.all (·.oneCell') = true := by kernel_rfl
theorem zc_5 : ((.int .u8 0 : Value).cells.toList.map zcell) = [(AV.b8 (0 : UInt8))] := by rfl
theorem in_90 : Info Tryd.prog 90 2 2 (.agg #[.int .u8 0, .int .u8 0]) := by unfold Info; kernel_rfl
theorem one_90 : (.agg #[.int .u8 0, .int .u8 0] : Value).cells.all (·.oneCell') = true := by kernel_rfl
theorem zc_90 : ((.agg #[.int .u8 0, .int .u8 0] : Value).cells.toList.map zcell) = Gutf8_acceptRange.cs Gutf8_acceptRange.zero := by rfl
theorem pl_90 : placesOf Tryd.prog 90 = some [(0, 1), (1, 1)] := by kernel_rfl
def tab2 : List Gutf8_acceptRange := [⟨128, 191⟩, ⟨160, 191⟩, ⟨128, 159⟩, ⟨144, 191⟩, ⟨128, 143⟩, ⟨0, 0⟩, ⟨0, 0⟩, ⟨0, 0⟩, ⟨0, 0⟩, ⟨0, 0⟩, ⟨0, 0⟩, ⟨0, 0⟩, ⟨0, 0⟩, ⟨0, 0⟩, ⟨0, 0⟩, ⟨0, 0⟩]
theorem tab2_len : tab2.length = 16 := rfl
theorem tab2_rd {s : TS} : tev s (.global 2) = .c (.p (.rptr (tab2.flatMap Gutf8_acceptRange.cs) 0)) := by
  show TV.c (.p (tabOf tabs 2)) = _
  rfl


/-! code.back -/
noncomputable def g_code_back (n0 : UInt64) : Option (UInt64) :=
  (if n0 &&& (9223372036854775808 : UInt64) ≠ (0 : UInt64) then some (n0 &&& (~~~ (9223372036854775808 : UInt64))) else some (~~~ n0))
set_option maxHeartbeats 4000000 in
set_option maxRecDepth 100000 in
theorem g_code_back_ac {n0 : UInt64} {r : UInt64} (H : g_code_back n0 = some r) : ACp Tryd.prog 74 [(AV.u64 n0)] (AV.u64 r) := by
 refine ACp_of (AC2_of_body (vs := [.p (AV.u64 r)]) Tryd.func74 rfl rfl (Nat.le_of_ble_eq_true rfl) rfl ?_) (fun _ => .same _)
 unfold g_code_back at H
 refine as2 [(0, .p (AV.u64 n0))] [] rfl rfl rfl ?_
 refine sg [0] rfl ?_
 refine rp rfl rfl (p_asg rfl rfl) ?_
 refine rz [(0, .p (AV.u64 n0))] [] rfl rfl rfl ?_
 refine AW2_seq ?_
 refine sg [0, 1, 2] rfl ?_
 refine rp rfl rfl (p_move rfl rfl) ?_
 refine rp rfl rfl (p_u64and (a := n0) (b := (9223372036854775808 : UInt64)) rfl rfl rfl) ?_
 refine rp rfl rfl (p_u64ne (a := n0 &&& (9223372036854775808 : UInt64)) (b := (0 : UInt64)) rfl rfl rfl) ?_
 refine rz [(0, .p (AV.u64 n0)), (5, .b (decide (n0 &&& (9223372036854775808 : UInt64) ≠ (0 : UInt64))))] [] rfl rfl rfl ?_
 refine AW2_if (p := n0 &&& (9223372036854775808 : UInt64) ≠ (0 : UInt64)) rfl (fun h1 => ?_) (fun h1 => ?_)
 ·replace H := ite_then h1 H
  refine sg [0, 1, 2] rfl ?_
  refine rp rfl rfl (p_move rfl rfl) ?_
  refine rp rfl rfl (p_u64andnot (a := n0) (b := (9223372036854775808 : UInt64)) rfl rfl rfl) ?_
  refine rp rfl rfl (p_asg rfl rfl) ?_
  refine rz [(2, .p (AV.u64 (n0 &&& (~~~ (9223372036854775808 : UInt64)))))] [] rfl rfl rfl ?_
  refine AW2_ret ?_
  have hz := some_elim H
  subst hz
  exact ⟨⟨res_tmp (.same _), trivial⟩, trivial⟩
 ·replace H := ite_else h1 H
  refine as2 [(0, .p (AV.u64 n0))] [] rfl rfl rfl ?_
  refine AW2_skip ?_
  refine sg [0, 1, 2] rfl ?_
  refine rp rfl rfl (p_move rfl rfl) ?_
  refine rp rfl rfl (p_u64cpl rfl rfl) ?_
  refine rp rfl rfl (p_asg rfl rfl) ?_
  refine rz [(2, .p (AV.u64 (~~~ n0)))] [] rfl rfl rfl ?_
  refine AW2_ret ?_
  have hz := some_elim H
  subst hz
  exact ⟨⟨res_tmp (.same _), trivial⟩, trivial⟩

/-! utf8.word[[]byte] -/
def g_utf8_word_byte_r1 : List (List (Nat × Option Nat)) := [[(0, none)], [(3, some 0)], [(4, some 1)], [(5, some 2)], [(0, none)], [(7, some 4)], [(8, some 5)], [(9, some 6)], [(10, some 7)], [(6, some 3), (11, some 8)], [(0, none)], [(13, some 10)], [(14, some 11)], [(15, some 12)], [(16, some 13)], [(12, some 9), (17, some 14)], [(0, none)], [(19, some 16)], [(20, some 17)], [(21, some 18)], [(22, some 19)]]
def g_utf8_word_byte_r1c : List (List Nat) := [[], [0], [0, 1], [0, 1, 2], [], [4], [4, 5], [4, 5, 6], [4, 5, 6, 7], [0, 1, 2, 3, 4, 5, 6, 7, 8], [], [10], [10, 11], [10, 11, 12], [10, 11, 12, 13], [0, 1, 2, 3, 4, 5, 6, 7, 8, 9, 10, 11, 12, 13, 14], [], [16], [16, 17], [16, 17, 18], [16, 17, 18, 19], [0, 1, 2, 3, 4, 5, 6, 7, 8, 9, 10, 11, 12, 13, 14, 15, 16, 17, 18, 19, 20], [0, 1, 2, 3, 4, 5, 6, 7, 8, 9, 10, 11, 12, 13, 14, 15, 16, 17, 18, 19, 20, 21]]
def g_utf8_word_byte_r2 : List (List (Nat × Option Nat)) := [[(0, none)], [(25, some 0)], [(26, some 1)], [(27, some 2)], [(0, none)], [(29, some 4)], [(30, some 5)], [(31, some 6)], [(32, some 7)], [(28, some 3), (33, some 8)], [(0, none)], [(35, some 10)], [(36, some 11)], [(37, some 12)], [(38, some 13)], [(34, some 9), (39, some 14)], [(0, none)], [(41, some 16)], [(42, some 17)], [(43, some 18)], [(44, some 19)], [(40, some 15), (45, some 20)], [(0, none)], [(47, some 22)], [(48, some 23)], [(49, some 24)], [(50, some 25)], [(46, some 21), (51, some 26)], [(0, none)], [(53, some 28)], [(54, some 29)], [(55, some 30)], [(56, some 31)], [(52, some 27), (57, some 32)], [(0, none)], [(59, some 34)], [(60, some 35)], [(61, some 36)], [(62, some 37)], [(58, some 33), (63, some 38)], [(0, none)], [(65, some 40)], [(66, some 41)], [(67, some 42)], [(68, some 43)]]
def g_utf8_word_byte_r2c : List (List Nat) := [[], [0], [0, 1], [0, 1, 2], [], [4], [4, 5], [4, 5, 6], [4, 5, 6, 7], [0, 1, 2, 3, 4, 5, 6, 7, 8], [], [10], [10, 11], [10, 11, 12], [10, 11, 12, 13], [0, 1, 2, 3, 4, 5, 6, 7, 8, 9, 10, 11, 12, 13, 14], [], [16], [16, 17], [16, 17, 18], [16, 17, 18, 19], [0, 1, 2, 3, 4, 5, 6, 7, 8, 9, 10, 11, 12, 13, 14, 15, 16, 17, 18, 19, 20], [], [22], [22, 23], [22, 23, 24], [22, 23, 24, 25], [0, 1, 2, 3, 4, 5, 6, 7, 8, 9, 10, 11, 12, 13, 14, 15, 16, 17, 18, 19, 20, 21, 22, 23, 24, 25, 26], [], [28], [28, 29], [28, 29, 30], [28, 29, 30, 31], [0, 1, 2, 3, 4, 5, 6, 7, 8, 9, 10, 11, 12, 13, 14, 15, 16, 17, 18, 19, 20, 21, 22, 23, 24, 25, 26, 27, 28, 29, 30, 31, 32], [], [34], [34, 35], [34, 35, 36], [34, 35, 36, 37], [0, 1, 2, 3, 4, 5, 6, 7, 8, 9, 10, 11, 12, 13, 14, 15, 16, 17, 18, 19, 20, 21, 22, 23, 24, 25, 26, 27, 28, 29, 30, 31, 32, 33, 34, 35, 36, 37, 38], [], [40], [40, 41], [40, 41, 42], [40, 41, 42, 43], [0, 1, 2, 3, 4, 5, 6, 7, 8, 9, 10, 11, 12, 13, 14, 15, 16, 17, 18, 19, 20, 21, 22, 23, 24, 25, 26, 27, 28, 29, 30, 31, 32, 33, 34, 35, 36, 37, 38, 39, 40, 41, 42, 43, 44], [0, 1, 2, 3, 4, 5, 6, 7, 8, 9, 10, 11, 12, 13, 14, 15, 16, 17, 18, 19, 20, 21, 22, 23, 24, 25, 26, 27, 28, 29, 30, 31, 32, 33, 34, 35, 36, 37, 38, 39, 40, 41, 42, 43, 44, 45]]
noncomputable def g_utf8_word_byte (s0 : List UInt8) : Option (UInt64) :=
  (if false = true then if 0 < s0.length then if 1 < s0.length then if 2 < s0.length then if 3 < s0.length then letO (((((lrd s0 0).toUInt64) ||| (shl_u64 ((lrd s0 1).toUInt64) 8)) ||| (shl_u64 ((lrd s0 2).toUInt64) 16)) ||| (shl_u64 ((lrd s0 3).toUInt64) 24)) fun t2'1 => some t2'1 else none else none else none else none else if 0 < s0.length then if 1 < s0.length then if 2 < s0.length then if 3 < s0.length then if 4 < s0.length then if 5 < s0.length then if 6 < s0.length then if 7 < s0.length then letO (((((((((lrd s0 0).toUInt64) ||| (shl_u64 ((lrd s0 1).toUInt64) 8)) ||| (shl_u64 ((lrd s0 2).toUInt64) 16)) ||| (shl_u64 ((lrd s0 3).toUInt64) 24)) ||| (shl_u64 ((lrd s0 4).toUInt64) 32)) ||| (shl_u64 ((lrd s0 5).toUInt64) 40)) ||| (shl_u64 ((lrd s0 6).toUInt64) 48)) ||| (shl_u64 ((lrd s0 7).toUInt64) 56)) fun t2'2 => some t2'2 else none else none else none else none else none else none else none else none)
set_option maxHeartbeats 4000000 in
set_option maxRecDepth 100000 in
theorem g_utf8_word_byte_ac {s0 : List UInt8} {r : UInt64} (H : g_utf8_word_byte s0 = some r) : ACp Tryd.prog 104 [(AV.bytes s0)] (AV.u64 r) := by
 refine ACp_of (AC2_of_body (vs := [.p (AV.u64 r)]) Tryd.func104 rfl rfl (Nat.le_of_ble_eq_true rfl) rfl ?_) (fun _ => .same _)
 unfold g_utf8_word_byte at H
 refine as2 [(0, .y s0)] [] rfl rfl rfl ?_
 refine sg [0] rfl ?_
 refine rp rfl rfl (p_asg rfl rfl) ?_
 refine rz [(0, .y s0)] [] rfl rfl rfl ?_
 refine AW2_seq ?_
 refine AW2_cond rfl (fun h1 => ?_) (fun h1 => ?_)
 ·replace H := ite_then h1 H
  refine AW2_seq ?_
  refine chkK H fun h2 H => ?_
  refine chkK H fun h3 H => ?_
  refine chkK H fun h4 H => ?_
  refine chkK H fun h5 H => ?_
  refine AW2_ghoQ ?_
  refine AW2_draw 21 [21, 22] (fun k => ([.y s0, .p (.rptr (bcells s0) (0 * 1)), .p (AV.b8 (lrd s0 0)), .p (AV.u64 ((lrd s0 0).toUInt64)), .y s0, .p (.rptr (bcells s0) (1 * 1)), .p (AV.b8 (lrd s0 1)), .p (AV.u64 ((lrd s0 1).toUInt64)), .p (AV.u64 (shl_u64 ((lrd s0 1).toUInt64) 8)), .p (AV.u64 (((lrd s0 0).toUInt64) ||| (shl_u64 ((lrd s0 1).toUInt64) 8))), .y s0, .p (.rptr (bcells s0) (2 * 1)), .p (AV.b8 (lrd s0 2)), .p (AV.u64 ((lrd s0 2).toUInt64)), .p (AV.u64 (shl_u64 ((lrd s0 2).toUInt64) 16)), .p (AV.u64 ((((lrd s0 0).toUInt64) ||| (shl_u64 ((lrd s0 1).toUInt64) 8)) ||| (shl_u64 ((lrd s0 2).toUInt64) 16))), .y s0, .p (.rptr (bcells s0) (3 * 1)), .p (AV.b8 (lrd s0 3)), .p (AV.u64 ((lrd s0 3).toUInt64)), .p (AV.u64 (shl_u64 ((lrd s0 3).toUInt64) 24))] : List TV).getD k TV.any) (fun k => g_utf8_word_byte_r1.getD k []) [(18, some 15), (23, some 20)] [] (fun k => g_utf8_word_byte_r1c.getD k []) mixed (by kernel_rfl) rfl rfl (a_op (g_x rfl (x_p rfl (p_move rfl rfl) rfl)) (a_op (g_x rfl (x_p rfl (u_ixl rfl rfl Tryd.underlying33 in_5 rfl rfl rfl h2 (lne h2)) rfl)) (a_op (g_x rfl (x_p rfl (u_ld rfl rfl Tryd.underlying5 rfl rfl (Sub.map default h2)) rfl)) (a_op (g_x rfl (x_p rfl (p_u8_u64 (a := (lrd s0 0)) rfl Tryd.underlying5 Tryd.underlying12 rfl) rfl)) (a_op (g_x rfl (x_p rfl (p_move rfl rfl) rfl)) (a_op (g_x rfl (x_p rfl (u_ixl rfl rfl Tryd.underlying33 in_5 rfl rfl rfl h3 (lne h3)) rfl)) (a_op (g_x rfl (x_p rfl (u_ld rfl rfl Tryd.underlying5 rfl rfl (Sub.map default h3)) rfl)) (a_op (g_x rfl (x_p rfl (p_u8_u64 (a := (lrd s0 1)) rfl Tryd.underlying5 Tryd.underlying12 rfl) rfl)) (a_op (g_x rfl (x_p rfl (p_u64shl (n := 8) rfl rfl rfl rfl) rfl)) (a_op (g_x rfl (x_p rfl (p_u64or (a := (lrd s0 0).toUInt64) (b := shl_u64 ((lrd s0 1).toUInt64) 8) rfl rfl rfl) rfl)) (a_op (g_x rfl (x_p rfl (p_move rfl rfl) rfl)) (a_op (g_x rfl (x_p rfl (u_ixl rfl rfl Tryd.underlying33 in_5 rfl rfl rfl h4 (lne h4)) rfl)) (a_op (g_x rfl (x_p rfl (u_ld rfl rfl Tryd.underlying5 rfl rfl (Sub.map default h4)) rfl)) (a_op (g_x rfl (x_p rfl (p_u8_u64 (a := (lrd s0 2)) rfl Tryd.underlying5 Tryd.underlying12 rfl) rfl)) (a_op (g_x rfl (x_p rfl (p_u64shl (n := 16) rfl rfl rfl rfl) rfl)) (a_op (g_x rfl (x_p rfl (p_u64or (a := ((lrd s0 0).toUInt64) ||| (shl_u64 ((lrd s0 1).toUInt64) 8)) (b := shl_u64 ((lrd s0 2).toUInt64) 16) rfl rfl rfl) rfl)) (a_op (g_x rfl (x_p rfl (p_move rfl rfl) rfl)) (a_op (g_x rfl (x_p rfl (u_ixl rfl rfl Tryd.underlying33 in_5 rfl rfl rfl h5 (lne h5)) rfl)) (a_op (g_x rfl (x_p rfl (u_ld rfl rfl Tryd.underlying5 rfl rfl (Sub.map default h5)) rfl)) (a_op (g_x rfl (x_p rfl (p_u8_u64 (a := (lrd s0 3)) rfl Tryd.underlying5 Tryd.underlying12 rfl) rfl)) (a_op (g_x rfl (x_p rfl (p_u64shl (n := 24) rfl rfl rfl rfl) rfl)) (a_nil)))))))))))))))))))))) ?_
  refine t_op rfl rfl (PureD.opD (p_u64or (a := (((lrd s0 0).toUInt64) ||| (shl_u64 ((lrd s0 1).toUInt64) 8)) ||| (shl_u64 ((lrd s0 2).toUInt64) 16)) (b := shl_u64 ((lrd s0 3).toUInt64) 24) rfl rfl rfl)) ?_
  refine t_op rfl rfl (PureD.opD (p_asg rfl rfl)) ?_
  refine t_gho (Gho_st (L := [(2, .p (AV.u64 (((((lrd s0 0).toUInt64) ||| (shl_u64 ((lrd s0 1).toUInt64) 8)) ||| (shl_u64 ((lrd s0 2).toUInt64) 16)) ||| (shl_u64 ((lrd s0 3).toUInt64) 24))))]) (H := []) (N := 71) rfl ⟨TLes.same _, trivial⟩ trivial) ?_
  refine gen1 (fun t2'1 => (⟨[(2, .p (AV.u64 t2'1))], [], 71⟩ : TS)) H ?_
  intro t2'1 H
  refine AW2_ret ?_
  have hz := some_elim H
  subst hz
  exact ⟨⟨res_tmp (.same _), trivial⟩, trivial⟩
 ·replace H := ite_else (ne_true h1) H
  refine AW2_skip ?_
  refine AW2_seq ?_
  refine chkK H fun h6 H => ?_
  refine chkK H fun h7 H => ?_
  refine chkK H fun h8 H => ?_
  refine chkK H fun h9 H => ?_
  refine chkK H fun h10 H => ?_
  refine chkK H fun h11 H => ?_
  refine chkK H fun h12 H => ?_
  refine chkK H fun h13 H => ?_
  refine AW2_ghoQ ?_
  refine AW2_draw 45 [45, 46] (fun k => ([.y s0, .p (.rptr (bcells s0) (0 * 1)), .p (AV.b8 (lrd s0 0)), .p (AV.u64 ((lrd s0 0).toUInt64)), .y s0, .p (.rptr (bcells s0) (1 * 1)), .p (AV.b8 (lrd s0 1)), .p (AV.u64 ((lrd s0 1).toUInt64)), .p (AV.u64 (shl_u64 ((lrd s0 1).toUInt64) 8)), .p (AV.u64 (((lrd s0 0).toUInt64) ||| (shl_u64 ((lrd s0 1).toUInt64) 8))), .y s0, .p (.rptr (bcells s0) (2 * 1)), .p (AV.b8 (lrd s0 2)), .p (AV.u64 ((lrd s0 2).toUInt64)), .p (AV.u64 (shl_u64 ((lrd s0 2).toUInt64) 16)), .p (AV.u64 ((((lrd s0 0).toUInt64) ||| (shl_u64 ((lrd s0 1).toUInt64) 8)) ||| (shl_u64 ((lrd s0 2).toUInt64) 16))), .y s0, .p (.rptr (bcells s0) (3 * 1)), .p (AV.b8 (lrd s0 3)), .p (AV.u64 ((lrd s0 3).toUInt64)), .p (AV.u64 (shl_u64 ((lrd s0 3).toUInt64) 24)), .p (AV.u64 (((((lrd s0 0).toUInt64) ||| (shl_u64 ((lrd s0 1).toUInt64) 8)) ||| (shl_u64 ((lrd s0 2).toUInt64) 16)) ||| (shl_u64 ((lrd s0 3).toUInt64) 24))), .y s0, .p (.rptr (bcells s0) (4 * 1)), .p (AV.b8 (lrd s0 4)), .p (AV.u64 ((lrd s0 4).toUInt64)), .p (AV.u64 (shl_u64 ((lrd s0 4).toUInt64) 32)), .p (AV.u64 ((((((lrd s0 0).toUInt64) ||| (shl_u64 ((lrd s0 1).toUInt64) 8)) ||| (shl_u64 ((lrd s0 2).toUInt64) 16)) ||| (shl_u64 ((lrd s0 3).toUInt64) 24)) ||| (shl_u64 ((lrd s0 4).toUInt64) 32))), .y s0, .p (.rptr (bcells s0) (5 * 1)), .p (AV.b8 (lrd s0 5)), .p (AV.u64 ((lrd s0 5).toUInt64)), .p (AV.u64 (shl_u64 ((lrd s0 5).toUInt64) 40)), .p (AV.u64 (((((((lrd s0 0).toUInt64) ||| (shl_u64 ((lrd s0 1).toUInt64) 8)) ||| (shl_u64 ((lrd s0 2).toUInt64) 16)) ||| (shl_u64 ((lrd s0 3).toUInt64) 24)) ||| (shl_u64 ((lrd s0 4).toUInt64) 32)) ||| (shl_u64 ((lrd s0 5).toUInt64) 40))), .y s0, .p (.rptr (bcells s0) (6 * 1)), .p (AV.b8 (lrd s0 6)), .p (AV.u64 ((lrd s0 6).toUInt64)), .p (AV.u64 (shl_u64 ((lrd s0 6).toUInt64) 48)), .p (AV.u64 ((((((((lrd s0 0).toUInt64) ||| (shl_u64 ((lrd s0 1).toUInt64) 8)) ||| (shl_u64 ((lrd s0 2).toUInt64) 16)) ||| (shl_u64 ((lrd s0 3).toUInt64) 24)) ||| (shl_u64 ((lrd s0 4).toUInt64) 32)) ||| (shl_u64 ((lrd s0 5).toUInt64) 40)) ||| (shl_u64 ((lrd s0 6).toUInt64) 48))), .y s0, .p (.rptr (bcells s0) (7 * 1)), .p (AV.b8 (lrd s0 7)), .p (AV.u64 ((lrd s0 7).toUInt64)), .p (AV.u64 (shl_u64 ((lrd s0 7).toUInt64) 56))] : List TV).getD k TV.any) (fun k => g_utf8_word_byte_r2.getD k []) [(64, some 39), (69, some 44)] [] (fun k => g_utf8_word_byte_r2c.getD k []) mixed (by kernel_rfl) rfl rfl (a_op (g_x rfl (x_p rfl (p_move rfl rfl) rfl)) (a_op (g_x rfl (x_p rfl (u_ixl rfl rfl Tryd.underlying33 in_5 rfl rfl rfl h6 (lne h6)) rfl)) (a_op (g_x rfl (x_p rfl (u_ld rfl rfl Tryd.underlying5 rfl rfl (Sub.map default h6)) rfl)) (a_op (g_x rfl (x_p rfl (p_u8_u64 (a := (lrd s0 0)) rfl Tryd.underlying5 Tryd.underlying22 rfl) rfl)) (a_op (g_x rfl (x_p rfl (p_move rfl rfl) rfl)) (a_op (g_x rfl (x_p rfl (u_ixl rfl rfl Tryd.underlying33 in_5 rfl rfl rfl h7 (lne h7)) rfl)) (a_op (g_x rfl (x_p rfl (u_ld rfl rfl Tryd.underlying5 rfl rfl (Sub.map default h7)) rfl)) (a_op (g_x rfl (x_p rfl (p_u8_u64 (a := (lrd s0 1)) rfl Tryd.underlying5 Tryd.underlying22 rfl) rfl)) (a_op (g_x rfl (x_p rfl (p_u64shl (n := 8) rfl rfl rfl rfl) rfl)) (a_op (g_x rfl (x_p rfl (p_u64or (a := (lrd s0 0).toUInt64) (b := shl_u64 ((lrd s0 1).toUInt64) 8) rfl rfl rfl) rfl)) (a_op (g_x rfl (x_p rfl (p_move rfl rfl) rfl)) (a_op (g_x rfl (x_p rfl (u_ixl rfl rfl Tryd.underlying33 in_5 rfl rfl rfl h8 (lne h8)) rfl)) (a_op (g_x rfl (x_p rfl (u_ld rfl rfl Tryd.underlying5 rfl rfl (Sub.map default h8)) rfl)) (a_op (g_x rfl (x_p rfl (p_u8_u64 (a := (lrd s0 2)) rfl Tryd.underlying5 Tryd.underlying22 rfl) rfl)) (a_op (g_x rfl (x_p rfl (p_u64shl (n := 16) rfl rfl rfl rfl) rfl)) (a_op (g_x rfl (x_p rfl (p_u64or (a := ((lrd s0 0).toUInt64) ||| (shl_u64 ((lrd s0 1).toUInt64) 8)) (b := shl_u64 ((lrd s0 2).toUInt64) 16) rfl rfl rfl) rfl)) (a_op (g_x rfl (x_p rfl (p_move rfl rfl) rfl)) (a_op (g_x rfl (x_p rfl (u_ixl rfl rfl Tryd.underlying33 in_5 rfl rfl rfl h9 (lne h9)) rfl)) (a_op (g_x rfl (x_p rfl (u_ld rfl rfl Tryd.underlying5 rfl rfl (Sub.map default h9)) rfl)) (a_op (g_x rfl (x_p rfl (p_u8_u64 (a := (lrd s0 3)) rfl Tryd.underlying5 Tryd.underlying22 rfl) rfl)) (a_op (g_x rfl (x_p rfl (p_u64shl (n := 24) rfl rfl rfl rfl) rfl)) (a_op (g_x rfl (x_p rfl (p_u64or (a := (((lrd s0 0).toUInt64) ||| (shl_u64 ((lrd s0 1).toUInt64) 8)) ||| (shl_u64 ((lrd s0 2).toUInt64) 16)) (b := shl_u64 ((lrd s0 3).toUInt64) 24) rfl rfl rfl) rfl)) (a_op (g_x rfl (x_p rfl (p_move rfl rfl) rfl)) (a_op (g_x rfl (x_p rfl (u_ixl rfl rfl Tryd.underlying33 in_5 rfl rfl rfl h10 (lne h10)) rfl)) (a_op (g_x rfl (x_p rfl (u_ld rfl rfl Tryd.underlying5 rfl rfl (Sub.map default h10)) rfl)) (a_op (g_x rfl (x_p rfl (p_u8_u64 (a := (lrd s0 4)) rfl Tryd.underlying5 Tryd.underlying22 rfl) rfl)) (a_op (g_x rfl (x_p rfl (p_u64shl (n := 32) rfl rfl rfl rfl) rfl)) (a_op (g_x rfl (x_p rfl (p_u64or (a := ((((lrd s0 0).toUInt64) ||| (shl_u64 ((lrd s0 1).toUInt64) 8)) ||| (shl_u64 ((lrd s0 2).toUInt64) 16)) ||| (shl_u64 ((lrd s0 3).toUInt64) 24)) (b := shl_u64 ((lrd s0 4).toUInt64) 32) rfl rfl rfl) rfl)) (a_op (g_x rfl (x_p rfl (p_move rfl rfl) rfl)) (a_op (g_x rfl (x_p rfl (u_ixl rfl rfl Tryd.underlying33 in_5 rfl rfl rfl h11 (lne h11)) rfl)) (a_op (g_x rfl (x_p rfl (u_ld rfl rfl Tryd.underlying5 rfl rfl (Sub.map default h11)) rfl)) (a_op (g_x rfl (x_p rfl (p_u8_u64 (a := (lrd s0 5)) rfl Tryd.underlying5 Tryd.underlying22 rfl) rfl)) (a_op (g_x rfl (x_p rfl (p_u64shl (n := 40) rfl rfl rfl rfl) rfl)) (a_op (g_x rfl (x_p rfl (p_u64or (a := (((((lrd s0 0).toUInt64) ||| (shl_u64 ((lrd s0 1).toUInt64) 8)) ||| (shl_u64 ((lrd s0 2).toUInt64) 16)) ||| (shl_u64 ((lrd s0 3).toUInt64) 24)) ||| (shl_u64 ((lrd s0 4).toUInt64) 32)) (b := shl_u64 ((lrd s0 5).toUInt64) 40) rfl rfl rfl) rfl)) (a_op (g_x rfl (x_p rfl (p_move rfl rfl) rfl)) (a_op (g_x rfl (x_p rfl (u_ixl rfl rfl Tryd.underlying33 in_5 rfl rfl rfl h12 (lne h12)) rfl)) (a_op (g_x rfl (x_p rfl (u_ld rfl rfl Tryd.underlying5 rfl rfl (Sub.map default h12)) rfl)) (a_op (g_x rfl (x_p rfl (p_u8_u64 (a := (lrd s0 6)) rfl Tryd.underlying5 Tryd.underlying22 rfl) rfl)) (a_op (g_x rfl (x_p rfl (p_u64shl (n := 48) rfl rfl rfl rfl) rfl)) (a_op (g_x rfl (x_p rfl (p_u64or (a := ((((((lrd s0 0).toUInt64) ||| (shl_u64 ((lrd s0 1).toUInt64) 8)) ||| (shl_u64 ((lrd s0 2).toUInt64) 16)) ||| (shl_u64 ((lrd s0 3).toUInt64) 24)) ||| (shl_u64 ((lrd s0 4).toUInt64) 32)) ||| (shl_u64 ((lrd s0 5).toUInt64) 40)) (b := shl_u64 ((lrd s0 6).toUInt64) 48) rfl rfl rfl) rfl)) (a_op (g_x rfl (x_p rfl (p_move rfl rfl) rfl)) (a_op (g_x rfl (x_p rfl (u_ixl rfl rfl Tryd.underlying33 in_5 rfl rfl rfl h13 (lne h13)) rfl)) (a_op (g_x rfl (x_p rfl (u_ld rfl rfl Tryd.underlying5 rfl rfl (Sub.map default h13)) rfl)) (a_op (g_x rfl (x_p rfl (p_u8_u64 (a := (lrd s0 7)) rfl Tryd.underlying5 Tryd.underlying22 rfl) rfl)) (a_op (g_x rfl (x_p rfl (p_u64shl (n := 56) rfl rfl rfl rfl) rfl)) (a_nil)))))))))))))))))))))))))))))))))))))))))))))) ?_
  refine t_op rfl rfl (PureD.opD (p_u64or (a := (((((((lrd s0 0).toUInt64) ||| (shl_u64 ((lrd s0 1).toUInt64) 8)) ||| (shl_u64 ((lrd s0 2).toUInt64) 16)) ||| (shl_u64 ((lrd s0 3).toUInt64) 24)) ||| (shl_u64 ((lrd s0 4).toUInt64) 32)) ||| (shl_u64 ((lrd s0 5).toUInt64) 40)) ||| (shl_u64 ((lrd s0 6).toUInt64) 48)) (b := shl_u64 ((lrd s0 7).toUInt64) 56) rfl rfl rfl)) ?_
  refine t_op rfl rfl (PureD.opD (p_asg rfl rfl)) ?_
  refine t_gho (Gho_st (L := [(2, .p (AV.u64 (((((((((lrd s0 0).toUInt64) ||| (shl_u64 ((lrd s0 1).toUInt64) 8)) ||| (shl_u64 ((lrd s0 2).toUInt64) 16)) ||| (shl_u64 ((lrd s0 3).toUInt64) 24)) ||| (shl_u64 ((lrd s0 4).toUInt64) 32)) ||| (shl_u64 ((lrd s0 5).toUInt64) 40)) ||| (shl_u64 ((lrd s0 6).toUInt64) 48)) ||| (shl_u64 ((lrd s0 7).toUInt64) 56))))]) (H := []) (N := 71) rfl ⟨TLes.same _, trivial⟩ trivial) ?_
  refine gen1 (fun t2'2 => (⟨[(2, .p (AV.u64 t2'2))], [], 71⟩ : TS)) H ?_
  intro t2'2 H
  refine AW2_ret ?_
  have hz := some_elim H
  subst hz
  exact ⟨⟨res_tmp (.same _), trivial⟩, trivial⟩

/-! utf8.Valid -/
def g_utf8_Valid_r8 : List (List (Nat × Option Nat)) := [[(0, none)], [(34, some 0)], [(35, some 1)], [(36, some 2)], [(0, none), (37, some 3)], [(37, some 3), (38, some 4)], [(0, none), (37, some 3)], [(37, some 3), (40, some 6)]]
def g_utf8_Valid_r8c : List (List Nat) := [[], [0], [0, 1], [0, 1, 2], [0, 1, 2, 3], [0, 1, 2, 3, 4], [0, 1, 2, 3], [0, 1, 2, 3, 6], [0, 1, 2, 3, 4, 5, 6, 7], [0, 1, 2, 3, 4, 5, 6, 7, 8], [0, 1, 2, 3, 4, 5, 6, 7, 8, 9], [0, 1, 2, 3, 4, 5, 6, 7, 8, 9, 10], [0, 1, 2, 3, 4, 5, 6, 7, 8, 9, 10, 11]]
def g_utf8_Valid_r10 : List (List (Nat × Option Nat)) := [[(0, none)], [(49, some 0)], [(50, some 1)], [(51, some 2)], [(0, none), (52, some 3)], [(52, some 3), (53, some 4)], [(0, none), (52, some 3)], [(52, some 3), (55, some 6)], [(52, some 3), (56, some 7)], [(52, some 3), (54, some 5), (57, some 8)], [(0, none), (52, some 3)], [(52, some 3), (59, some 10)], [(52, some 3), (60, some 11)], [(0, none), (52, some 3)], [(52, some 3), (62, some 13)], [(52, some 3), (63, some 14)], [(52, some 3), (61, some 12), (64, some 15)]]
def g_utf8_Valid_r10c : List (List Nat) := [[], [0], [0, 1], [0, 1, 2], [0, 1, 2, 3], [0, 1, 2, 3, 4], [0, 1, 2, 3], [0, 1, 2, 3, 6], [0, 1, 2, 3, 4, 5, 6, 7], [0, 1, 2, 3, 4, 5, 6, 7, 8], [0, 1, 2, 3], [0, 1, 2, 3, 10], [0, 1, 2, 3, 4, 5, 6, 7, 8, 10, 11], [0, 1, 2, 3], [0, 1, 2, 3, 13], [0, 1, 2, 3, 4, 5, 6, 7, 8, 10, 11, 12, 13, 14], [0, 1, 2, 3, 4, 5, 6, 7, 8, 10, 11, 12, 13, 14, 15], [0, 1, 2, 3, 4, 5, 6, 7, 8, 9, 10, 11, 12, 13, 14, 15, 16], [0, 1, 2, 3, 4, 5, 6, 7, 8, 9, 10, 11, 12, 13, 14, 15, 16, 17], [0, 1, 2, 3, 4, 5, 6, 7, 8, 9, 10, 11, 12, 13, 14, 15, 16, 17, 18], [0, 1, 2, 3, 4, 5, 6, 7, 8, 9, 10, 11, 12, 13, 14, 15, 16, 17, 18, 19]]
def g_utf8_Valid_r18 : List (List (Nat × Option Nat)) := [[(0, none)], [(85, some 0)], [(86, some 1)], [(87, some 2)], [(0, none), (88, some 3)], [(88, some 3), (89, some 4)], [(88, some 3), (90, some 5)], [(6, none), (88, some 3)], [(88, some 3), (92, some 7)], [(88, some 3), (91, some 6), (93, some 8)], [(88, some 3), (94, some 9)], [(95, some 10)], [(6, none), (96, some 11)], [(96, some 11), (97, some 12)], [(0, none), (96, some 11)], [(96, some 11), (99, some 14)], [(96, some 11), (100, some 15)]]
def g_utf8_Valid_r18c : List (List Nat) := [[], [0], [0, 1], [0, 1, 2], [0, 1, 2, 3], [0, 1, 2, 3, 4], [0, 1, 2, 3, 4, 5], [0, 1, 2, 3], [0, 1, 2, 3, 7], [0, 1, 2, 3, 4, 5, 6, 7, 8], [0, 1, 2, 3, 4, 5, 6, 7, 8, 9], [0, 1, 2, 3, 4, 5, 6, 7, 8, 9, 10], [0, 1, 2, 3, 4, 5, 6, 7, 8, 9, 10, 11], [0, 1, 2, 3, 4, 5, 6, 7, 8, 9, 10, 11, 12], [0, 1, 2, 3, 4, 5, 6, 7, 8, 9, 10, 11], [0, 1, 2, 3, 4, 5, 6, 7, 8, 9, 10, 11, 14], [0, 1, 2, 3, 4, 5, 6, 7, 8, 9, 10, 11, 14, 15], [0, 1, 2, 3, 4, 5, 6, 7, 8, 9, 10, 11, 12, 13, 14, 15, 16], [0, 1, 2, 3, 4, 5, 6, 7, 8, 9, 10, 11, 12, 13, 14, 15, 16, 17]]
def g_utf8_Valid_r22 : List (List (Nat × Option Nat)) := [[(0, none)], [(108, some 0)], [(109, some 1)], [(110, some 2)], [(0, none), (111, some 3)], [(111, some 3), (112, some 4)], [(111, some 3), (113, some 5)], [(6, none), (111, some 3)], [(111, some 3), (115, some 7)], [(111, some 3), (114, some 6), (116, some 8)], [(111, some 3), (117, some 9)], [(118, some 10)], [(6, none), (119, some 11)], [(119, some 11), (120, some 12)], [(0, none), (119, some 11)], [(119, some 11), (122, some 14)], [(119, some 11), (123, some 15)]]
def g_utf8_Valid_r22c : List (List Nat) := [[], [0], [0, 1], [0, 1, 2], [0, 1, 2, 3], [0, 1, 2, 3, 4], [0, 1, 2, 3, 4, 5], [0, 1, 2, 3], [0, 1, 2, 3, 7], [0, 1, 2, 3, 4, 5, 6, 7, 8], [0, 1, 2, 3, 4, 5, 6, 7, 8, 9], [0, 1, 2, 3, 4, 5, 6, 7, 8, 9, 10], [0, 1, 2, 3, 4, 5, 6, 7, 8, 9, 10, 11], [0, 1, 2, 3, 4, 5, 6, 7, 8, 9, 10, 11, 12], [0, 1, 2, 3, 4, 5, 6, 7, 8, 9, 10, 11], [0, 1, 2, 3, 4, 5, 6, 7, 8, 9, 10, 11, 14], [0, 1, 2, 3, 4, 5, 6, 7, 8, 9, 10, 11, 14, 15], [0, 1, 2, 3, 4, 5, 6, 7, 8, 9, 10, 11, 12, 13, 14, 15, 16], [0, 1, 2, 3, 4, 5, 6, 7, 8, 9, 10, 11, 12, 13, 14, 15, 16, 17], [0, 1, 2, 3, 4, 5, 6, 7, 8, 9, 10, 11, 12, 13, 14, 15, 16, 17, 18], [0, 1, 2, 3, 4, 5, 6, 7, 8, 9, 10, 11, 12, 13, 14, 15, 16, 17, 18, 19], [0, 1, 2, 3, 4, 5, 6, 7, 8, 9, 10, 11, 12, 13, 14, 15, 16, 17, 18, 19, 20], [0, 1, 2, 3, 4, 5, 6, 7, 8, 9, 10, 11, 12, 13, 14, 15, 16, 17, 18, 19, 20, 21], [0, 1, 2, 3, 4, 5, 6, 7, 8, 9, 10, 11, 12, 13, 14, 15, 16, 17, 18, 19, 20, 21, 22], [0, 1, 2, 3, 4, 5, 6, 7, 8, 9, 10, 11, 12, 13, 14, 15, 16, 17, 18, 19, 20, 21, 22, 23], [0, 1, 2, 3, 4, 5, 6, 7, 8, 9, 10, 11, 12, 13, 14, 15, 16, 17, 18, 19, 20, 21, 22, 23, 24], [0, 1, 2, 3, 4, 5, 6, 7, 8, 9, 10, 11, 12, 13, 14, 15, 16, 17, 18, 19, 20, 21, 22, 23, 24, 25], [0, 1, 2, 3, 4, 5, 6, 7, 8, 9, 10, 11, 12, 13, 14, 15, 16, 17, 18, 19, 20, 21, 22, 23, 24, 25, 26], [0, 1, 2, 3, 4, 5, 6, 7, 8, 9, 10, 11, 12, 13, 14, 15, 16, 17, 18, 19, 20, 21, 22, 23, 24, 25, 26, 27], [0, 1, 2, 3, 4, 5, 6, 7, 8, 9, 10, 11, 12, 13, 14, 15, 16, 17, 18, 19, 20, 21, 22, 23, 24, 25, 26, 27, 28], [0, 1, 2, 3, 4, 5, 6, 7, 8, 9, 10, 11, 12, 13, 14, 15, 16, 17, 18, 19, 20, 21, 22, 23, 24, 25, 26, 27, 28, 29]]
def g_utf8_Valid_r26 : List (List (Nat × Option Nat)) := [[(0, none)], [(143, some 0)], [(144, some 1)], [(145, some 2)], [(0, none), (146, some 3)], [(146, some 3), (147, some 4)], [(146, some 3), (148, some 5)], [(6, none), (146, some 3)], [(146, some 3), (150, some 7)], [(146, some 3), (149, some 6), (151, some 8)], [(146, some 3), (152, some 9)], [(153, some 10)], [(6, none), (154, some 11)], [(154, some 11), (155, some 12)], [(0, none), (154, some 11)], [(154, some 11), (157, some 14)], [(154, some 11), (158, some 15)]]
def g_utf8_Valid_r26c : List (List Nat) := [[], [0], [0, 1], [0, 1, 2], [0, 1, 2, 3], [0, 1, 2, 3, 4], [0, 1, 2, 3, 4, 5], [0, 1, 2, 3], [0, 1, 2, 3, 7], [0, 1, 2, 3, 4, 5, 6, 7, 8], [0, 1, 2, 3, 4, 5, 6, 7, 8, 9], [0, 1, 2, 3, 4, 5, 6, 7, 8, 9, 10], [0, 1, 2, 3, 4, 5, 6, 7, 8, 9, 10, 11], [0, 1, 2, 3, 4, 5, 6, 7, 8, 9, 10, 11, 12], [0, 1, 2, 3, 4, 5, 6, 7, 8, 9, 10, 11], [0, 1, 2, 3, 4, 5, 6, 7, 8, 9, 10, 11, 14], [0, 1, 2, 3, 4, 5, 6, 7, 8, 9, 10, 11, 14, 15], [0, 1, 2, 3, 4, 5, 6, 7, 8, 9, 10, 11, 12, 13, 14, 15, 16], [0, 1, 2, 3, 4, 5, 6, 7, 8, 9, 10, 11, 12, 13, 14, 15, 16, 17], [0, 1, 2, 3, 4, 5, 6, 7, 8, 9, 10, 11, 12, 13, 14, 15, 16, 17, 18], [0, 1, 2, 3, 4, 5, 6, 7, 8, 9, 10, 11, 12, 13, 14, 15, 16, 17, 18, 19], [0, 1, 2, 3, 4, 5, 6, 7, 8, 9, 10, 11, 12, 13, 14, 15, 16, 17, 18, 19, 20], [0, 1, 2, 3, 4, 5, 6, 7, 8, 9, 10, 11, 12, 13, 14, 15, 16, 17, 18, 19, 20, 21], [0, 1, 2, 3, 4, 5, 6, 7, 8, 9, 10, 11, 12, 13, 14, 15, 16, 17, 18, 19, 20, 21, 22], [0, 1, 2, 3, 4, 5, 6, 7, 8, 9, 10, 11, 12, 13, 14, 15, 16, 17, 18, 19, 20, 21, 22, 23], [0, 1, 2, 3, 4, 5, 6, 7, 8, 9, 10, 11, 12, 13, 14, 15, 16, 17, 18, 19, 20, 21, 22, 23, 24], [0, 1, 2, 3, 4, 5, 6, 7, 8, 9, 10, 11, 12, 13, 14, 15, 16, 17, 18, 19, 20, 21, 22, 23, 24, 25], [0, 1, 2, 3, 4, 5, 6, 7, 8, 9, 10, 11, 12, 13, 14, 15, 16, 17, 18, 19, 20, 21, 22, 23, 24, 25, 26], [0, 1, 2, 3, 4, 5, 6, 7, 8, 9, 10, 11, 12, 13, 14, 15, 16, 17, 18, 19, 20, 21, 22, 23, 24, 25, 26, 27], [0, 1, 2, 3, 4, 5, 6, 7, 8, 9, 10, 11, 12, 13, 14, 15, 16, 17, 18, 19, 20, 21, 22, 23, 24, 25, 26, 27, 28], [0, 1, 2, 3, 4, 5, 6, 7, 8, 9, 10, 11, 12, 13, 14, 15, 16, 17, 18, 19, 20, 21, 22, 23, 24, 25, 26, 27, 28, 29], [0, 1, 2, 3, 4, 5, 6, 7, 8, 9, 10, 11, 12, 13, 14, 15, 16, 17, 18, 19, 20, 21, 22, 23, 24, 25, 26, 27, 28, 29, 30], [0, 1, 2, 3, 4, 5, 6, 7, 8, 9, 10, 11, 12, 13, 14, 15, 16, 17, 18, 19, 20, 21, 22, 23, 24, 25, 26, 27, 28, 29, 30, 31], [0, 1, 2, 3, 4, 5, 6, 7, 8, 9, 10, 11, 12, 13, 14, 15, 16, 17, 18, 19, 20, 21, 22, 23, 24, 25, 26, 27, 28, 29, 30, 31, 32], [0, 1, 2, 3, 4, 5, 6, 7, 8, 9, 10, 11, 12, 13, 14, 15, 16, 17, 18, 19, 20, 21, 22, 23, 24, 25, 26, 27, 28, 29, 30, 31, 32, 33], [0, 1, 2, 3, 4, 5, 6, 7, 8, 9, 10, 11, 12, 13, 14, 15, 16, 17, 18, 19, 20, 21, 22, 23, 24, 25, 26, 27, 28, 29, 30, 31, 32, 33, 34], [0, 1, 2, 3, 4, 5, 6, 7, 8, 9, 10, 11, 12, 13, 14, 15, 16, 17, 18, 19, 20, 21, 22, 23, 24, 25, 26, 27, 28, 29, 30, 31, 32, 33, 34, 35], [0, 1, 2, 3, 4, 5, 6, 7, 8, 9, 10, 11, 12, 13, 14, 15, 16, 17, 18, 19, 20, 21, 22, 23, 24, 25, 26, 27, 28, 29, 30, 31, 32, 33, 34, 35, 36], [0, 1, 2, 3, 4, 5, 6, 7, 8, 9, 10, 11, 12, 13, 14, 15, 16, 17, 18, 19, 20, 21, 22, 23, 24, 25, 26, 27, 28, 29, 30, 31, 32, 33, 34, 35, 36, 37], [0, 1, 2, 3, 4, 5, 6, 7, 8, 9, 10, 11, 12, 13, 14, 15, 16, 17, 18, 19, 20, 21, 22, 23, 24, 25, 26, 27, 28, 29, 30, 31, 32, 33, 34, 35, 36, 37, 38], [0, 1, 2, 3, 4, 5, 6, 7, 8, 9, 10, 11, 12, 13, 14, 15, 16, 17, 18, 19, 20, 21, 22, 23, 24, 25, 26, 27, 28, 29, 30, 31, 32, 33, 34, 35, 36, 37, 38, 39], [0, 1, 2, 3, 4, 5, 6, 7, 8, 9, 10, 11, 12, 13, 14, 15, 16, 17, 18, 19, 20, 21, 22, 23, 24, 25, 26, 27, 28, 29, 30, 31, 32, 33, 34, 35, 36, 37, 38, 39, 40], [0, 1, 2, 3, 4, 5, 6, 7, 8, 9, 10, 11, 12, 13, 14, 15, 16, 17, 18, 19, 20, 21, 22, 23, 24, 25, 26, 27, 28, 29, 30, 31, 32, 33, 34, 35, 36, 37, 38, 39, 40, 41]]
noncomputable def g_utf8_Valid_l1 : (List UInt8) → Option (((List UInt8)) ⊕ (((List UInt8))))
  | p0_1 => ((if (p0_1.length : Int) > (32 : Int) then (g_utf8_word_byte p0_1).bind fun r'9 => if 0 ≤ (8 : Int) ∧ (8 : Int) ≤ (p0_1.length : Int) then (g_utf8_word_byte (cut p0_1 (8 : Int) (p0_1.length : Int))).bind fun r'10 => if 0 ≤ (16 : Int) ∧ (16 : Int) ≤ (p0_1.length : Int) then (g_utf8_word_byte (cut p0_1 (16 : Int) (p0_1.length : Int))).bind fun r'11 => if 0 ≤ (24 : Int) ∧ (24 : Int) ≤ (p0_1.length : Int) then (g_utf8_word_byte (cut p0_1 (24 : Int) (p0_1.length : Int))).bind fun r'12 => some (decide (((r'9 ||| r'10) ||| (r'11 ||| r'12)) &&& (9259542123273814144 : UInt64) = (0 : UInt64))) else none else none else none else some false)).bind fun g'13 => (if g'13 = true then if 0 ≤ (32 : Int) ∧ (32 : Int) ≤ (p0_1.length : Int) then some (.inl (cut p0_1 (32 : Int) (p0_1.length : Int))) else none else some (.inr p0_1))
noncomputable def g_utf8_Valid_l0 : (List UInt8) → Option (((List UInt8)) ⊕ (Bool ⊕ Unit))
  | p0_0 => (if (p0_0.length : Int) > (0 : Int) then if 0 < p0_0.length then (if (lrd p0_0 0) < (128 : UInt8) then if 0 ≤ (1 : Int) ∧ (1 : Int) ≤ (p0_0.length : Int) then (((if ((cut p0_0 (1 : Int) (p0_0.length : Int)).length : Int) > (8 : Int) then (g_utf8_word_byte (cut p0_0 (1 : Int) (p0_0.length : Int))).bind fun r'3 => some (decide (r'3 &&& (9259542123273814144 : UInt64) = (0 : UInt64))) else some false)).bind fun g'4 => (if g'4 = true then if 0 ≤ (8 : Int) ∧ (8 : Int) ≤ ((cut p0_0 (1 : Int) (p0_0.length : Int)).length : Int) then letO ((cut (cut p0_0 (1 : Int) (p0_0.length : Int)) (8 : Int) ((cut p0_0 (1 : Int) (p0_0.length : Int)).length : Int))) fun p0'5 => ((if (p0'5.length : Int) > (16 : Int) then (g_utf8_word_byte p0'5).bind fun r'6 => if 0 ≤ (8 : Int) ∧ (8 : Int) ≤ (p0'5.length : Int) then (g_utf8_word_byte (cut p0'5 (8 : Int) (p0'5.length : Int))).bind fun r'7 => some (decide ((r'6 ||| r'7) &&& (9259542123273814144 : UInt64) = (0 : UInt64))) else none else some false)).bind fun g'8 => (if g'8 = true then if 0 ≤ (16 : Int) ∧ (16 : Int) ≤ (p0'5.length : Int) then (loopO (g_utf8_Valid_l1) (cut p0'5 (16 : Int) (p0'5.length : Int))).bind fun y'17 => some y'17 else none else some p0'5) else none else some (cut p0_0 (1 : Int) (p0_0.length : Int)))).bind fun j'1 => some (.inl j'1) else none else if 0 ≤ ((lrd p0_0 0).toNat : Int) ∧ ((lrd p0_0 0).toNat : Int) < (256 : Int) then letO ((((lrd tab1 (((lrd p0_0 0).toNat : Int).toNat)) &&& (7 : UInt8)).toNat : Int)) fun size5'18 => if 0 ≤ ((shr_u8 (lrd tab1 (((lrd p0_0 0).toNat : Int).toNat)) 4).toNat : Int) ∧ ((shr_u8 (lrd tab1 (((lrd p0_0 0).toNat : Int).toNat)) 4).toNat : Int) < (16 : Int) then letO ((lrd tab2 (((shr_u8 (lrd tab1 (((lrd p0_0 0).toNat : Int).toNat)) 4).toNat : Int).toNat))) fun accept6'19 => (if size5'18 = (2 : Int) then ((if (p0_0.length : Int) < (2 : Int) then some true else if 1 < p0_0.length then (if (lrd p0_0 1) < accept6'19.lo_ then some true else if 1 < p0_0.length then some (decide (accept6'19.hi_ < (lrd p0_0 1))) else none) else none)).bind fun g'20 => (if g'20 = true then some (.inr (.inl false)) else if 0 ≤ (2 : Int) ∧ (2 : Int) ≤ (p0_0.length : Int) then some (.inl (cut p0_0 (2 : Int) (p0_0.length : Int))) else none) else (if size5'18 = (3 : Int) then ((if (p0_0.length : Int) < (3 : Int) then some true else if 1 < p0_0.length then (if (lrd p0_0 1) < accept6'19.lo_ then some true else if 1 < p0_0.length then (if accept6'19.hi_ < (lrd p0_0 1) then some true else if 2 < p0_0.length then (if (lrd p0_0 2) < (128 : UInt8) then some true else if 2 < p0_0.length then some (decide ((191 : UInt8) < (lrd p0_0 2))) else none) else none) else none) else none)).bind fun g'21 => (if g'21 = true then some (.inr (.inl false)) else if 0 ≤ (3 : Int) ∧ (3 : Int) ≤ (p0_0.length : Int) then some (.inl (cut p0_0 (3 : Int) (p0_0.length : Int))) else none) else (if size5'18 = (4 : Int) then ((if (p0_0.length : Int) < (4 : Int) then some true else if 1 < p0_0.length then (if (lrd p0_0 1) < accept6'19.lo_ then some true else if 1 < p0_0.length then (if accept6'19.hi_ < (lrd p0_0 1) then some true else if 2 < p0_0.length then (if (lrd p0_0 2) < (128 : UInt8) then some true else if 2 < p0_0.length then (if (191 : UInt8) < (lrd p0_0 2) then some true else if 3 < p0_0.length then (if (lrd p0_0 3) < (128 : UInt8) then some true else if 3 < p0_0.length then some (decide ((191 : UInt8) < (lrd p0_0 3))) else none) else none) else none) else none) else none) else none)).bind fun g'22 => (if g'22 = true then some (.inr (.inl false)) else if 0 ≤ (4 : Int) ∧ (4 : Int) ≤ (p0_0.length : Int) then some (.inl (cut p0_0 (4 : Int) (p0_0.length : Int))) else none) else some (.inr (.inl false))))) else none else none) else none else some (.inr (.inr ())))
noncomputable def g_utf8_Valid (p0 : List UInt8) : Option (Bool) :=
  if 0 ≤ (p0.length : Int) ∧ (p0.length : Int) ≤ (p0.length : Int) then (loopO (g_utf8_Valid_l0) (cut p0 (0 : Int) (p0.length : Int))).bind fun o'26 => match o'26 with | .inl y'27 => some y'27 | .inr (y'28) => some true else none
set_option maxHeartbeats 4000000 in
set_option maxRecDepth 100000 in
theorem g_utf8_Valid_ac {p0 : List UInt8} {r : Bool} (H : g_utf8_Valid p0 = some r) : ACp Tryd.prog 87 [(AV.bytes p0)] (AV.bool r) := by
 refine ACp_of (AC2_of_body (vs := [.b r]) Tryd.func87 rfl rfl (Nat.le_of_ble_eq_true rfl) rfl ?_) (fun _ => .same _)
 unfold g_utf8_Valid at H
 refine as2 [(0, .y p0)] [] rfl rfl rfl ?_
 refine sg [0] rfl ?_
 refine rp rfl rfl (p_asg rfl rfl) ?_
 refine rz [(0, .y p0)] [] rfl rfl rfl ?_
 refine sg [0, 1, 2, 3, 4, 5, 6] rfl ?_
 refine rp rfl rfl (p_move rfl rfl) ?_
 refine rp rfl rfl (p_move rfl rfl) ?_
 refine rp rfl rfl (p_lenl rfl Tryd.underlying33 rfl rfl) ?_
 refine rp rfl rfl (p_move rfl rfl) ?_
 refine rp rfl rfl (p_lenl rfl Tryd.underlying33 rfl rfl) ?_
 refine chkK H fun h1 H => ?_
 refine rp rfl rfl (u_cutl (g := (fun l => bcells l)) (a := (0 : Int)) (b := (p0.length : Int)) rfl rfl Tryd.underlying33 in_5 rfl bT_zero (bT_i (Int.le_trans (show 0 ≤ (0 : Int) ∧ (0 : Int) ≤ (p0.length : Int) ∧ (p0.length : Int) ≤ (p0.length : Int) from ⟨Int.le_refl _, h1.1, h1.2⟩).1 (show 0 ≤ (0 : Int) ∧ (0 : Int) ≤ (p0.length : Int) ∧ (p0.length : Int) ≤ (p0.length : Int) from ⟨Int.le_refl _, h1.1, h1.2⟩).2.1) rfl) (.inr ⟨(bT_i (Int.le_trans (show 0 ≤ (0 : Int) ∧ (0 : Int) ≤ (p0.length : Int) ∧ (p0.length : Int) ≤ (p0.length : Int) from ⟨Int.le_refl _, h1.1, h1.2⟩).1 (show 0 ≤ (0 : Int) ∧ (0 : Int) ≤ (p0.length : Int) ∧ (p0.length : Int) ≤ (p0.length : Int) from ⟨Int.le_refl _, h1.1, h1.2⟩).2.1) rfl), rfl⟩) (show 0 ≤ (0 : Int) ∧ (0 : Int) ≤ (p0.length : Int) ∧ (p0.length : Int) ≤ (p0.length : Int) from ⟨Int.le_refl _, h1.1, h1.2⟩) (g_bytes)) ?_
 refine rp rfl rfl (p_asg rfl rfl) ?_
 refine rz [(0, .y (cut p0 (0 : Int) (p0.length : Int)))] [] rfl rfl rfl ?_
 refine AW2_seq ?_
 refine AW2_block ?_
 refine as2 [(0, .y (cut p0 (0 : Int) (p0.length : Int)))] [] rfl rfl rfl ?_
 refine bindK H fun o'26 h71 H => ?_
 refine AW2_loopO (fun a'23 : (List UInt8) => (⟨[(0, .y a'23)], [], 188⟩ : TS)) (fun (o : Bool ⊕ Unit) e s' => match o with | .inl y'24 => e = Go.Exit.ret ∧ ResAll Tryd.prog s' [ResultVar.tmp 2] [.b y'24] ∧ HFits s' [] | .inr (y'25) => e = Go.Exit.exit 0 ∧ s' = (⟨[], [], 188⟩ : TS)) h71 rfl (fun p0_0 x hx => ?_) (fun e s' hs => ?_)
 ·clear H
  have H := hx
  clear hx
  unfold g_utf8_Valid_l0 at H
  refine AW2_seq ?_
  refine sg [0, 1, 2] rfl ?_
  refine rp rfl rfl (p_move rfl rfl) ?_
  refine rp rfl rfl (p_lenl rfl Tryd.underlying33 rfl rfl) ?_
  refine rp rfl rfl (p_bin rfl rfl rfl rfl) ?_
  refine rz [(0, .y p0_0), (15, .b (decide ((p0_0.length : Int) > (0 : Int))))] [] rfl rfl rfl ?_
  refine AW2_if (p := (p0_0.length : Int) > (0 : Int)) rfl (fun h2 => ?_) (fun h2 => ?_)
  ·replace H := ite_then h2 H
   refine as2 [(0, .y p0_0)] [] rfl rfl rfl ?_
   refine AW2_skip ?_
   refine AW2_block ?_
   refine sg [0, 1, 2, 3] rfl ?_
   refine rp rfl rfl (p_move rfl rfl) ?_
   refine chkK H fun h3 H => ?_
   refine rp rfl rfl (u_ixl rfl rfl Tryd.underlying33 in_5 rfl rfl rfl h3 (lne h3)) ?_
   refine rp rfl rfl (u_ld rfl rfl Tryd.underlying5 rfl rfl (Sub.map default h3)) ?_
   refine rp rfl rfl (p_asg rfl rfl) ?_
   refine rz [(0, .y p0_0), (3, .p (AV.b8 (lrd p0_0 0)))] [] rfl rfl rfl ?_
   refine AW2_seq ?_
   refine sg [0, 1] rfl ?_
   refine rp rfl rfl (p_move rfl rfl) ?_
   refine rp rfl rfl (p_u8lt (a := (lrd p0_0 0)) (b := (128 : UInt8)) rfl rfl rfl) ?_
   refine rz [(0, .y p0_0), (3, .p (AV.b8 (lrd p0_0 0))), (20, .b (decide ((lrd p0_0 0) < (128 : UInt8))))] [] rfl rfl rfl ?_
   refine AW2_if (p := (lrd p0_0 0) < (128 : UInt8)) rfl (fun h4 => ?_) (fun h4 => ?_)
   ·replace H := ite_then h4 H
    refine sg [0, 1, 2] rfl ?_
    refine rp rfl rfl (p_move rfl rfl) ?_
    refine chkK H fun h5 H => ?_
    refine rp rfl rfl (u_cutl (g := (fun l => bcells l)) (a := (1 : Int)) (b := (p0_0.length : Int)) rfl rfl Tryd.underlying33 in_5 rfl (bT_i (show 0 ≤ (1 : Int) ∧ (1 : Int) ≤ (p0_0.length : Int) ∧ (p0_0.length : Int) ≤ (p0_0.length : Int) from ⟨h5.1, h5.2, Int.le_refl _⟩).1 rfl) (bT_len _) (.inl rfl) (show 0 ≤ (1 : Int) ∧ (1 : Int) ≤ (p0_0.length : Int) ∧ (p0_0.length : Int) ≤ (p0_0.length : Int) from ⟨h5.1, h5.2, Int.le_refl _⟩) (g_bytes)) ?_
    refine rp rfl rfl (p_asg rfl rfl) ?_
    refine rz [(0, .y (cut p0_0 (1 : Int) (p0_0.length : Int)))] [] rfl rfl rfl ?_
    refine AW2_seq ?_
    refine bindK H fun j'1 h6 H => ?_
    refine AW2_mid (⟨[(0, .y j'1)], [], 188⟩ : TS) ?_ ?_
    ·clear H
     have H := h6
     clear h6
     refine AW2_seq ?_
     refine bindK H fun g'4 h10 H => ?_
     refine AW2_mid (⟨[(0, .y (cut p0_0 (1 : Int) (p0_0.length : Int))), (31, .b g'4)], [], 188⟩ : TS) ?_ ?_
     ·clear H
      have H := h10
      clear h10
      refine AW2_reg [0, 1, 2, 3, 4, 5, 6, 7, 8] rfl ?_
      refine rp rfl rfl (p_move rfl rfl) ?_
      refine rp rfl rfl (p_lenl rfl Tryd.underlying33 rfl rfl) ?_
      refine rp rfl rfl (p_bin rfl rfl rfl rfl) ?_
      refine rp rfl rfl (p_move rfl rfl) ?_
      refine (Classical.em (((cut p0_0 (1 : Int) (p0_0.length : Int)).length : Int) > (8 : Int))).elim (fun h8 => ?_) (fun h8 => ?_)
      ·replace H := ite_then h8 H
       refine r_on rfl rfl rfl rfl (decide_eq_true h8) rfl (PureD.opD (p_move rfl rfl)) ?_
       refine bindK H fun r'3 h9 H => ?_
       refine r_on rfl rfl rfl rfl (decide_eq_true h8) rfl (PureD.opD (p_callp rfl rfl rfl Tryd.func104 rfl rfl (g_utf8_word_byte_ac h9) ⟨rfl, trivial⟩)) ?_
       refine r_on rfl rfl rfl rfl (decide_eq_true h8) rfl (PureD.opD (p_u64and (a := r'3) (b := (9259542123273814144 : UInt64)) rfl rfl rfl)) ?_
       refine r_on rfl rfl rfl rfl (decide_eq_true h8) rfl (PureD.opD (p_u64eq (a := r'3 &&& (9259542123273814144 : UInt64)) (b := (0 : UInt64)) rfl rfl rfl)) ?_
       refine rp rfl rfl (p_pkt rfl rfl (decide_eq_true h8) (.same _)) ?_
       refine rs [(0, .y (cut p0_0 (1 : Int) (p0_0.length : Int))), (31, .b (decide (r'3 &&& (9259542123273814144 : UInt64) = (0 : UInt64))))] [] rfl rfl rfl ?_
       have hz := some_elim H
       subst hz
       exact RunW_nil rfl
      ·replace H := ite_else h8 H
       iterate 4 (refine r_off rfl rfl rfl rfl (decide_eq_false h8) rfl rfl ?_)
       refine rp rfl rfl (p_pkf rfl rfl (decide_eq_false h8) (.same _)) ?_
       refine rs [(0, .y (cut p0_0 (1 : Int) (p0_0.length : Int))), (31, .b false)] [] rfl rfl rfl ?_
       have hz := some_elim H
       subst hz
       exact RunW_nil rfl
     ·refine AW2_cond rfl (fun h11 => ?_) (fun h11 => ?_)
      ·replace H := ite_then h11 H
       refine sg [0, 1, 2] rfl ?_
       refine rp rfl rfl (p_move rfl rfl) ?_
       refine chkK H fun h12 H => ?_
       refine rp rfl rfl (u_cutl (g := (fun l => bcells l)) (a := (8 : Int)) (b := ((cut p0_0 (1 : Int) (p0_0.length : Int)).length : Int)) rfl rfl Tryd.underlying33 in_5 rfl (bT_i (show 0 ≤ (8 : Int) ∧ (8 : Int) ≤ ((cut p0_0 (1 : Int) (p0_0.length : Int)).length : Int) ∧ ((cut p0_0 (1 : Int) (p0_0.length : Int)).length : Int) ≤ ((cut p0_0 (1 : Int) (p0_0.length : Int)).length : Int) from ⟨h12.1, h12.2, Int.le_refl _⟩).1 rfl) (bT_len _) (.inl rfl) (show 0 ≤ (8 : Int) ∧ (8 : Int) ≤ ((cut p0_0 (1 : Int) (p0_0.length : Int)).length : Int) ∧ ((cut p0_0 (1 : Int) (p0_0.length : Int)).length : Int) ≤ ((cut p0_0 (1 : Int) (p0_0.length : Int)).length : Int) from ⟨h12.1, h12.2, Int.le_refl _⟩) (g_bytes)) ?_
       refine rp rfl rfl (p_asg rfl rfl) ?_
       refine rz [(0, .y (cut (cut p0_0 (1 : Int) (p0_0.length : Int)) (8 : Int) ((cut p0_0 (1 : Int) (p0_0.length : Int)).length : Int)))] [] rfl rfl rfl ?_
       refine gen1 (fun p0'5 => (⟨[(0, .y p0'5)], [], 188⟩ : TS)) H ?_
       intro p0'5 H
       refine AW2_seq ?_
       refine bindK H fun g'8 h17 H => ?_
       refine AW2_mid (⟨[(0, .y p0'5), (46, .b g'8)], [], 188⟩ : TS) ?_ ?_
       ·clear H
        have H := h17
        clear h17
        refine (Classical.em ((p0'5.length : Int) > (16 : Int))).elim (fun h13 => ?_) (fun h13 => ?_)
        ·replace H := ite_then h13 H
         refine bindK H fun r'6 h14 H => ?_
         refine chkK H fun h15 H => ?_
         refine bindK H fun r'7 h16 H => ?_
         have hz := some_elim H
         subst hz
         refine AW2_ghoQ ?_
         refine AW2_draw 8 [8, 9, 10, 11, 12] (fun k => ([.y p0'5, .i (p0'5.length : Int), .b (decide ((p0'5.length : Int) > (16 : Int))), .b (decide ((p0'5.length : Int) > (16 : Int))), .y p0'5, .p (AV.u64 r'6), .y p0'5, .y (cut p0'5 (8 : Int) (p0'5.length : Int))] : List TV).getD k TV.any) (fun k => g_utf8_Valid_r8.getD k []) [(0, none), (37, some 3), (39, some 5), (41, some 7)] [] (fun k => g_utf8_Valid_r8c.getD k []) mixed (by kernel_rfl) rfl rfl (a_op (g_x rfl (x_p rfl (p_move rfl rfl) rfl)) (a_op (g_x rfl (x_p rfl (p_lenl rfl Tryd.underlying33 rfl rfl) rfl)) (a_op (g_x rfl (x_p rfl (p_bin rfl rfl rfl rfl) rfl)) (a_op (g_x rfl (x_p rfl (p_move rfl rfl) rfl)) (a_op (g_on rfl rfl rfl (decide_eq_true h13) rfl (x_p rfl (p_move rfl rfl) rfl)) (a_op (g_on rfl rfl rfl (decide_eq_true h13) rfl (x_p rfl (p_callp rfl rfl rfl Tryd.func104 rfl rfl (g_utf8_word_byte_ac h14) ⟨rfl, trivial⟩) rfl)) (a_op (g_on rfl rfl rfl (decide_eq_true h13) rfl (x_p rfl (p_move rfl rfl) rfl)) (a_op (g_on rfl rfl rfl (decide_eq_true h13) rfl (x_p rfl (u_cutl (g := (fun l => bcells l)) (a := (8 : Int)) (b := (p0'5.length : Int)) rfl rfl Tryd.underlying33 in_5 rfl (bT_i (show 0 ≤ (8 : Int) ∧ (8 : Int) ≤ (p0'5.length : Int) ∧ (p0'5.length : Int) ≤ (p0'5.length : Int) from ⟨h15.1, h15.2, Int.le_refl _⟩).1 rfl) (bT_len _) (.inl rfl) (show 0 ≤ (8 : Int) ∧ (8 : Int) ≤ (p0'5.length : Int) ∧ (p0'5.length : Int) ≤ (p0'5.length : Int) from ⟨h15.1, h15.2, Int.le_refl _⟩) (g_bytes)) rfl)) (a_nil))))))))) ?_
         refine t_on rfl rfl rfl rfl (decide_eq_true h13) rfl (PureD.opD (p_callp rfl rfl rfl Tryd.func104 rfl rfl (g_utf8_word_byte_ac h16) ⟨rfl, trivial⟩)) ?_
         refine t_on rfl rfl rfl rfl (decide_eq_true h13) rfl (PureD.opD (p_u64or (a := r'6) (b := r'7) rfl rfl rfl)) ?_
         refine t_on rfl rfl rfl rfl (decide_eq_true h13) rfl (PureD.opD (p_u64and (a := r'6 ||| r'7) (b := (9259542123273814144 : UInt64)) rfl rfl rfl)) ?_
         refine t_on rfl rfl rfl rfl (decide_eq_true h13) rfl (PureD.opD (p_u64eq (a := (r'6 ||| r'7) &&& (9259542123273814144 : UInt64)) (b := (0 : UInt64)) rfl rfl rfl)) ?_
         refine t_op rfl rfl (PureD.opD (p_pkt rfl rfl (decide_eq_true h13) (.same _))) ?_
         refine t_gho (Gho_st (L := [(0, .y p0'5), (46, .b (decide ((r'6 ||| r'7) &&& (9259542123273814144 : UInt64) = (0 : UInt64))))]) (H := []) (N := 188) rfl ⟨TLes.same _, TLes.same _, trivial⟩ trivial) ?_
         exact rfl
        ·replace H := ite_else h13 H
         have hz := some_elim H
         subst hz
         refine AW2_ghoQ ?_
         refine AW2_draw 8 [8, 9, 10, 11, 12] (fun k => ([.y p0'5, .i (p0'5.length : Int), .b (decide ((p0'5.length : Int) > (16 : Int))), .b (decide ((p0'5.length : Int) > (16 : Int))), .p (.tup []), .p (.tup []), .p (.tup []), .p (.tup [])] : List TV).getD k TV.any) (fun k => g_utf8_Valid_r8.getD k []) [(0, none), (37, some 3), (39, some 5), (41, some 7)] [] (fun k => g_utf8_Valid_r8c.getD k []) mixed (by kernel_rfl) rfl rfl (a_op (g_x rfl (x_p rfl (p_move rfl rfl) rfl)) (a_op (g_x rfl (x_p rfl (p_lenl rfl Tryd.underlying33 rfl rfl) rfl)) (a_op (g_x rfl (x_p rfl (p_bin rfl rfl rfl rfl) rfl)) (a_op (g_x rfl (x_p rfl (p_move rfl rfl) rfl)) (a_op (g_off rfl rfl rfl rfl rfl (decide_eq_false h13) rfl rfl) (a_op (g_off rfl rfl rfl rfl rfl (decide_eq_false h13) rfl rfl) (a_op (g_off rfl rfl rfl rfl rfl (decide_eq_false h13) rfl rfl) (a_op (g_off rfl rfl rfl rfl rfl (decide_eq_false h13) rfl rfl) (a_nil))))))))) ?_
         refine t_off rfl rfl rfl rfl (decide_eq_false h13) rfl rfl ?_
         refine t_off rfl rfl rfl rfl (decide_eq_false h13) rfl rfl ?_
         refine t_off rfl rfl rfl rfl (decide_eq_false h13) rfl rfl ?_
         refine t_off rfl rfl rfl rfl (decide_eq_false h13) rfl rfl ?_
         refine t_op rfl rfl (PureD.opD (p_pkf rfl rfl (decide_eq_false h13) (.same _))) ?_
         refine t_gho (Gho_st (L := [(0, .y p0'5), (46, .b false)]) (H := []) (N := 188) rfl ⟨TLes.same _, TLes.same _, trivial⟩ trivial) ?_
         exact rfl
       ·refine AW2_cond rfl (fun h18 => ?_) (fun h18 => ?_)
        ·replace H := ite_then h18 H
         refine sg [0, 1, 2] rfl ?_
         refine rp rfl rfl (p_move rfl rfl) ?_
         refine chkK H fun h19 H => ?_
         refine rp rfl rfl (u_cutl (g := (fun l => bcells l)) (a := (16 : Int)) (b := (p0'5.length : Int)) rfl rfl Tryd.underlying33 in_5 rfl (bT_i (show 0 ≤ (16 : Int) ∧ (16 : Int) ≤ (p0'5.length : Int) ∧ (p0'5.length : Int) ≤ (p0'5.length : Int) from ⟨h19.1, h19.2, Int.le_refl _⟩).1 rfl) (bT_len _) (.inl rfl) (show 0 ≤ (16 : Int) ∧ (16 : Int) ≤ (p0'5.length : Int) ∧ (p0'5.length : Int) ≤ (p0'5.length : Int) from ⟨h19.1, h19.2, Int.le_refl _⟩) (g_bytes)) ?_
         refine rp rfl rfl (p_asg rfl rfl) ?_
         refine rz [(0, .y (cut p0'5 (16 : Int) (p0'5.length : Int)))] [] rfl rfl rfl ?_
         refine AW2_block ?_
         refine as2 [(0, .y (cut p0'5 (16 : Int) (p0'5.length : Int)))] [] rfl rfl rfl ?_
         refine bindK H fun y'17 h31 H => ?_
         refine AW2_loopO (fun a'14 : (List UInt8) => (⟨[(0, .y a'14)], [], 188⟩ : TS)) (fun (y'15 : ((List UInt8))) e s' => e = Go.Exit.exit 2 ∧ s' = (⟨[(0, .y y'15)], [], 188⟩ : TS)) h31 rfl (fun p0_1 x hx => ?_) (fun e s' hs => ?_)
         ·clear H
          have H := hx
          clear hx
          unfold g_utf8_Valid_l1 at H
          refine AW2_seq ?_
          refine AW2_seq ?_
          refine bindK H fun g'13 h28 H => ?_
          refine AW2_mid (⟨[(0, .y p0_1), (69, .b g'13)], [], 188⟩ : TS) ?_ ?_
          ·clear H
           have H := h28
           clear h28
           refine (Classical.em ((p0_1.length : Int) > (32 : Int))).elim (fun h20 => ?_) (fun h20 => ?_)
           ·replace H := ite_then h20 H
            refine bindK H fun r'9 h21 H => ?_
            refine chkK H fun h22 H => ?_
            refine bindK H fun r'10 h23 H => ?_
            refine chkK H fun h24 H => ?_
            refine bindK H fun r'11 h25 H => ?_
            refine chkK H fun h26 H => ?_
            refine bindK H fun r'12 h27 H => ?_
            have hz := some_elim H
            subst hz
            refine AW2_ghoQ ?_
            refine AW2_draw 17 [17, 18, 19, 20] (fun k => ([.y p0_1, .i (p0_1.length : Int), .b (decide ((p0_1.length : Int) > (32 : Int))), .b (decide ((p0_1.length : Int) > (32 : Int))), .y p0_1, .p (AV.u64 r'9), .y p0_1, .y (cut p0_1 (8 : Int) (p0_1.length : Int)), .p (AV.u64 r'10), .p (AV.u64 (r'9 ||| r'10)), .y p0_1, .y (cut p0_1 (16 : Int) (p0_1.length : Int)), .p (AV.u64 r'11), .y p0_1, .y (cut p0_1 (24 : Int) (p0_1.length : Int)), .p (AV.u64 r'12), .p (AV.u64 (r'11 ||| r'12))] : List TV).getD k TV.any) (fun k => g_utf8_Valid_r10.getD k []) [(0, none), (52, some 3), (58, some 9), (65, some 16)] [] (fun k => g_utf8_Valid_r10c.getD k []) mixed (by kernel_rfl) rfl rfl (a_op (g_x rfl (x_p rfl (p_move rfl rfl) rfl)) (a_op (g_x rfl (x_p rfl (p_lenl rfl Tryd.underlying33 rfl rfl) rfl)) (a_op (g_x rfl (x_p rfl (p_bin rfl rfl rfl rfl) rfl)) (a_op (g_x rfl (x_p rfl (p_move rfl rfl) rfl)) (a_op (g_on rfl rfl rfl (decide_eq_true h20) rfl (x_p rfl (p_move rfl rfl) rfl)) (a_op (g_on rfl rfl rfl (decide_eq_true h20) rfl (x_p rfl (p_callp rfl rfl rfl Tryd.func104 rfl rfl (g_utf8_word_byte_ac h21) ⟨rfl, trivial⟩) rfl)) (a_op (g_on rfl rfl rfl (decide_eq_true h20) rfl (x_p rfl (p_move rfl rfl) rfl)) (a_op (g_on rfl rfl rfl (decide_eq_true h20) rfl (x_p rfl (u_cutl (g := (fun l => bcells l)) (a := (8 : Int)) (b := (p0_1.length : Int)) rfl rfl Tryd.underlying33 in_5 rfl (bT_i (show 0 ≤ (8 : Int) ∧ (8 : Int) ≤ (p0_1.length : Int) ∧ (p0_1.length : Int) ≤ (p0_1.length : Int) from ⟨h22.1, h22.2, Int.le_refl _⟩).1 rfl) (bT_len _) (.inl rfl) (show 0 ≤ (8 : Int) ∧ (8 : Int) ≤ (p0_1.length : Int) ∧ (p0_1.length : Int) ≤ (p0_1.length : Int) from ⟨h22.1, h22.2, Int.le_refl _⟩) (g_bytes)) rfl)) (a_op (g_on rfl rfl rfl (decide_eq_true h20) rfl (x_p rfl (p_callp rfl rfl rfl Tryd.func104 rfl rfl (g_utf8_word_byte_ac h23) ⟨rfl, trivial⟩) rfl)) (a_op (g_on rfl rfl rfl (decide_eq_true h20) rfl (x_p rfl (p_u64or (a := r'9) (b := r'10) rfl rfl rfl) rfl)) (a_op (g_on rfl rfl rfl (decide_eq_true h20) rfl (x_p rfl (p_move rfl rfl) rfl)) (a_op (g_on rfl rfl rfl (decide_eq_true h20) rfl (x_p rfl (u_cutl (g := (fun l => bcells l)) (a := (16 : Int)) (b := (p0_1.length : Int)) rfl rfl Tryd.underlying33 in_5 rfl (bT_i (show 0 ≤ (16 : Int) ∧ (16 : Int) ≤ (p0_1.length : Int) ∧ (p0_1.length : Int) ≤ (p0_1.length : Int) from ⟨h24.1, h24.2, Int.le_refl _⟩).1 rfl) (bT_len _) (.inl rfl) (show 0 ≤ (16 : Int) ∧ (16 : Int) ≤ (p0_1.length : Int) ∧ (p0_1.length : Int) ≤ (p0_1.length : Int) from ⟨h24.1, h24.2, Int.le_refl _⟩) (g_bytes)) rfl)) (a_op (g_on rfl rfl rfl (decide_eq_true h20) rfl (x_p rfl (p_callp rfl rfl rfl Tryd.func104 rfl rfl (g_utf8_word_byte_ac h25) ⟨rfl, trivial⟩) rfl)) (a_op (g_on rfl rfl rfl (decide_eq_true h20) rfl (x_p rfl (p_move rfl rfl) rfl)) (a_op (g_on rfl rfl rfl (decide_eq_true h20) rfl (x_p rfl (u_cutl (g := (fun l => bcells l)) (a := (24 : Int)) (b := (p0_1.length : Int)) rfl rfl Tryd.underlying33 in_5 rfl (bT_i (show 0 ≤ (24 : Int) ∧ (24 : Int) ≤ (p0_1.length : Int) ∧ (p0_1.length : Int) ≤ (p0_1.length : Int) from ⟨h26.1, h26.2, Int.le_refl _⟩).1 rfl) (bT_len _) (.inl rfl) (show 0 ≤ (24 : Int) ∧ (24 : Int) ≤ (p0_1.length : Int) ∧ (p0_1.length : Int) ≤ (p0_1.length : Int) from ⟨h26.1, h26.2, Int.le_refl _⟩) (g_bytes)) rfl)) (a_op (g_on rfl rfl rfl (decide_eq_true h20) rfl (x_p rfl (p_callp rfl rfl rfl Tryd.func104 rfl rfl (g_utf8_word_byte_ac h27) ⟨rfl, trivial⟩) rfl)) (a_op (g_on rfl rfl rfl (decide_eq_true h20) rfl (x_p rfl (p_u64or (a := r'11) (b := r'12) rfl rfl rfl) rfl)) (a_nil)))))))))))))))))) ?_
            refine t_on rfl rfl rfl rfl (decide_eq_true h20) rfl (PureD.opD (p_u64or (a := r'9 ||| r'10) (b := r'11 ||| r'12) rfl rfl rfl)) ?_
            refine t_on rfl rfl rfl rfl (decide_eq_true h20) rfl (PureD.opD (p_u64and (a := (r'9 ||| r'10) ||| (r'11 ||| r'12)) (b := (9259542123273814144 : UInt64)) rfl rfl rfl)) ?_
            refine t_on rfl rfl rfl rfl (decide_eq_true h20) rfl (PureD.opD (p_u64eq (a := ((r'9 ||| r'10) ||| (r'11 ||| r'12)) &&& (9259542123273814144 : UInt64)) (b := (0 : UInt64)) rfl rfl rfl)) ?_
            refine t_op rfl rfl (PureD.opD (p_pkt rfl rfl (decide_eq_true h20) (.same _))) ?_
            refine t_gho (Gho_st (L := [(0, .y p0_1), (69, .b (decide (((r'9 ||| r'10) ||| (r'11 ||| r'12)) &&& (9259542123273814144 : UInt64) = (0 : UInt64))))]) (H := []) (N := 188) rfl ⟨TLes.same _, TLes.same _, trivial⟩ trivial) ?_
            exact rfl
           ·replace H := ite_else h20 H
            have hz := some_elim H
            subst hz
            refine AW2_ghoQ ?_
            refine AW2_draw 17 [17, 18, 19, 20] (fun k => ([.y p0_1, .i (p0_1.length : Int), .b (decide ((p0_1.length : Int) > (32 : Int))), .b (decide ((p0_1.length : Int) > (32 : Int))), .p (.tup []), .p (.tup []), .p (.tup []), .p (.tup []), .p (.tup []), .p (.tup []), .p (.tup []), .p (.tup []), .p (.tup []), .p (.tup []), .p (.tup []), .p (.tup []), .p (.tup [])] : List TV).getD k TV.any) (fun k => g_utf8_Valid_r10.getD k []) [(0, none), (52, some 3), (58, some 9), (65, some 16)] [] (fun k => g_utf8_Valid_r10c.getD k []) mixed (by kernel_rfl) rfl rfl (a_op (g_x rfl (x_p rfl (p_move rfl rfl) rfl)) (a_op (g_x rfl (x_p rfl (p_lenl rfl Tryd.underlying33 rfl rfl) rfl)) (a_op (g_x rfl (x_p rfl (p_bin rfl rfl rfl rfl) rfl)) (a_op (g_x rfl (x_p rfl (p_move rfl rfl) rfl)) (a_op (g_off rfl rfl rfl rfl rfl (decide_eq_false h20) rfl rfl) (a_op (g_off rfl rfl rfl rfl rfl (decide_eq_false h20) rfl rfl) (a_op (g_off rfl rfl rfl rfl rfl (decide_eq_false h20) rfl rfl) (a_op (g_off rfl rfl rfl rfl rfl (decide_eq_false h20) rfl rfl) (a_op (g_off rfl rfl rfl rfl rfl (decide_eq_false h20) rfl rfl) (a_op (g_off rfl rfl rfl rfl rfl (decide_eq_false h20) rfl rfl) (a_op (g_off rfl rfl rfl rfl rfl (decide_eq_false h20) rfl rfl) (a_op (g_off rfl rfl rfl rfl rfl (decide_eq_false h20) rfl rfl) (a_op (g_off rfl rfl rfl rfl rfl (decide_eq_false h20) rfl rfl) (a_op (g_off rfl rfl rfl rfl rfl (decide_eq_false h20) rfl rfl) (a_op (g_off rfl rfl rfl rfl rfl (decide_eq_false h20) rfl rfl) (a_op (g_off rfl rfl rfl rfl rfl (decide_eq_false h20) rfl rfl) (a_op (g_off rfl rfl rfl rfl rfl (decide_eq_false h20) rfl rfl) (a_nil)))))))))))))))))) ?_
            refine t_off rfl rfl rfl rfl (decide_eq_false h20) rfl rfl ?_
            refine t_off rfl rfl rfl rfl (decide_eq_false h20) rfl rfl ?_
            refine t_off rfl rfl rfl rfl (decide_eq_false h20) rfl rfl ?_
            refine t_op rfl rfl (PureD.opD (p_pkf rfl rfl (decide_eq_false h20) (.same _))) ?_
            refine t_gho (Gho_st (L := [(0, .y p0_1), (69, .b false)]) (H := []) (N := 188) rfl ⟨TLes.same _, TLes.same _, trivial⟩ trivial) ?_
            exact rfl
          ·refine AW2_cond rfl (fun h29 => ?_) (fun h29 => ?_)
           ·replace H := ite_then h29 H
            refine as2 [(0, .y p0_1)] [] rfl rfl rfl ?_
            refine AW2_skip ?_
            refine AW2_block ?_
            refine AW2_reg [0, 1, 2] rfl ?_
            refine rp rfl rfl (p_move rfl rfl) ?_
            refine chkK H fun h30 H => ?_
            refine rp rfl rfl (u_cutl (g := (fun l => bcells l)) (a := (32 : Int)) (b := (p0_1.length : Int)) rfl rfl Tryd.underlying33 in_5 rfl (bT_i (show 0 ≤ (32 : Int) ∧ (32 : Int) ≤ (p0_1.length : Int) ∧ (p0_1.length : Int) ≤ (p0_1.length : Int) from ⟨h30.1, h30.2, Int.le_refl _⟩).1 rfl) (bT_len _) (.inl rfl) (show 0 ≤ (32 : Int) ∧ (32 : Int) ≤ (p0_1.length : Int) ∧ (p0_1.length : Int) ≤ (p0_1.length : Int) from ⟨h30.1, h30.2, Int.le_refl _⟩) (g_bytes)) ?_
            refine rp rfl rfl (p_asg rfl rfl) ?_
            refine rz [(0, .y (cut p0_1 (32 : Int) (p0_1.length : Int)))] [] rfl rfl rfl ?_
            have hz := some_elim H
            subst hz
            exact ⟨rfl, rfl⟩
           ·replace H := ite_else (ne_true h29) H
            refine as2 [(0, .y p0_1)] [] rfl rfl rfl ?_
            refine AW2_exit ?_
            refine thenQ2_exit ?_
            have hz := some_elim H
            subst hz
            exact ⟨rfl, rfl⟩
         ·obtain ⟨rfl, rfl⟩ := hs
          refine ⟨by simp, ?_⟩
          refine blockQ2_exit ?_
          have hz := some_elim H
          subst hz
          exact rfl
        ·replace H := ite_else (ne_true h18) H
         refine as2 [(0, .y p0'5)] [] rfl rfl rfl ?_
         refine AW2_skip ?_
         have hz := some_elim H
         subst hz
         exact rfl
      ·replace H := ite_else (ne_true h11) H
       refine as2 [(0, .y (cut p0_0 (1 : Int) (p0_0.length : Int)))] [] rfl rfl rfl ?_
       refine AW2_skip ?_
       have hz := some_elim H
       subst hz
       exact rfl
    ·refine as2 [(0, .y j'1)] [] rfl rfl rfl ?_
     refine AW2_exit ?_
     refine thenQ2_exit ?_
     refine blockQ2_exit ?_
     have hz := some_elim H
     subst hz
     exact ⟨rfl, rfl⟩
   ·replace H := ite_else h4 H
    refine as2 [(0, .y p0_0), (3, .p (AV.b8 (lrd p0_0 0)))] [] rfl rfl rfl ?_
    refine AW2_skip ?_
    refine sg [0, 1, 2, 3] rfl ?_
    refine rp rfl rfl (p_move rfl rfl) ?_
    refine chkK H fun h33 H => ?_
    refine rp rfl rfl (u_ixq rfl rfl Tryd.underlying88 in_5 tab1_rd rfl (ixe h33) (ixn h33)) ?_
    refine rp rfl rfl (u_ld rfl rfl Tryd.underlying5 rfl rfl ((Sub.refl _).trans (Sub.map default (ixn h33)))) ?_
    refine rp rfl rfl (p_asg rfl rfl) ?_
    refine rz [(0, .y p0_0), (4, .p (AV.b8 (lrd tab1 (((lrd p0_0 0).toNat : Int).toNat))))] [] rfl rfl rfl ?_
    refine sg [0, 1, 2, 3] rfl ?_
    refine rp rfl rfl (p_move rfl rfl) ?_
    refine rp rfl rfl (p_u8and (a := (lrd tab1 (((lrd p0_0 0).toNat : Int).toNat))) (b := (7 : UInt8)) rfl rfl rfl) ?_
    refine rp rfl rfl (p_ci rfl Tryd.underlying5 Tryd.underlying3 rfl (wrapu8i ((lrd tab1 (((lrd p0_0 0).toNat : Int).toNat)) &&& (7 : UInt8)))) ?_
    refine rp rfl rfl (p_asg rfl rfl) ?_
    refine rz [(0, .y p0_0), (4, .p (AV.b8 (lrd tab1 (((lrd p0_0 0).toNat : Int).toNat)))), (5, .i (((lrd tab1 (((lrd p0_0 0).toNat : Int).toNat)) &&& (7 : UInt8)).toNat : Int))] [] rfl rfl rfl ?_
    refine gen1 (fun size5'18 => (⟨[(0, .y p0_0), (4, .p (AV.b8 (lrd tab1 (((lrd p0_0 0).toNat : Int).toNat)))), (5, .i size5'18)], [], 188⟩ : TS)) H ?_
    intro size5'18 H
    refine sg [0, 1, 2, 3, 4, 5] rfl ?_
    refine rp rfl rfl (p_move rfl rfl) ?_
    refine rp rfl rfl (p_u8shr (n := 4) rfl rfl rfl rfl) ?_
    refine chkK H fun h34 H => ?_
    refine rp rfl rfl (u_ixq rfl rfl Tryd.underlying91 in_90 tab2_rd rfl (ixe h34) (ixn h34)) ?_
    refine rp rfl rfl (u_lda rfl rfl Tryd.underlying90 rfl in_90 rfl (Nat.succ_pos _) ((Sub.refl _).trans (Sub.fm default (fun x => (Gutf8_acceptRange.len x)) (ixn h34))) (Gutf8_acceptRange.len (lrd tab2 (((shr_u8 (lrd tab1 (((lrd p0_0 0).toNat : Int).toNat)) 4).toNat : Int).toNat)))) ?_
    refine r_op rfl rfl (MakeD.opD (u_alloc 6 rfl in_90 one_90 zc_90) rfl rfl rfl rfl) ?_
    refine r_op rfl rfl (u_st rfl rfl rfl rfl rfl in_90 (Gutf8_acceptRange.len (lrd tab2 (((shr_u8 (lrd tab1 (((lrd p0_0 0).toNat : Int).toNat)) 4).toNat : Int).toNat))) (ne_of_lt (n := 0) (Nat.lt_of_lt_of_eq (by decide) (Eq.symm (Gutf8_acceptRange.len Gutf8_acceptRange.zero)))) (Upd.refl ((Gutf8_acceptRange.len (lrd tab2 (((shr_u8 (lrd tab1 (((lrd p0_0 0).toNat : Int).toNat)) 4).toNat : Int).toNat))).trans (Gutf8_acceptRange.len Gutf8_acceptRange.zero).symm))) ?_
    refine rz [(0, .y p0_0), (5, .i size5'18), (6, .q 6 (0))] [(6, .pure (Gutf8_acceptRange.cs (lrd tab2 (((shr_u8 (lrd tab1 (((lrd p0_0 0).toNat : Int).toNat)) 4).toNat : Int).toNat))))] rfl rfl rfl ?_
    refine gen1 (fun accept6'19 => (⟨[(0, .y p0_0), (5, .i size5'18), (6, .q 6 (0))], [(6, .pure (Gutf8_acceptRange.cs accept6'19))], 188⟩ : TS)) H ?_
    intro accept6'19 H
    refine sg [0] rfl ?_
    refine rp rfl rfl (p_move rfl rfl) ?_
    refine rz [(0, .y p0_0), (6, .q 6 (0)), (82, .i size5'18)] [(6, .pure (Gutf8_acceptRange.cs accept6'19))] rfl rfl rfl ?_
    refine AW2_block ?_
    refine sg [0, 1] rfl ?_
    refine rp rfl rfl (p_ieq rfl rfl rfl) ?_
    refine rp rfl rfl (p_asg rfl rfl) ?_
    refine rz [(0, .y p0_0), (6, .q 6 (0)), (82, .i size5'18), (83, .b (decide (size5'18 = (2 : Int))))] [(6, .pure (Gutf8_acceptRange.cs accept6'19))] rfl rfl rfl ?_
    refine AW2_if (p := size5'18 = (2 : Int)) rfl (fun h35 => ?_) (fun h35 => ?_)
    ·replace H := ite_then h35 H
     refine AW2_seq ?_
     refine AW2_seq ?_
     refine bindK H fun g'20 h40 H => ?_
     refine AW2_mid (⟨[(0, .y p0_0), (103, .b g'20)], [], 188⟩ : TS) ?_ ?_
     ·clear H
      have H := h40
      clear h40
      refine (Classical.em ((p0_0.length : Int) < (2 : Int))).elim (fun h36 => ?_) (fun h36 => ?_)
      ·replace H := ite_then h36 H
       have hz := some_elim H
       subst hz
       refine AW2_ghoQ ?_
       refine AW2_draw 17 [17, 18] (fun k => ([.y p0_0, .i (p0_0.length : Int), .b (decide ((p0_0.length : Int) < (2 : Int))), .b (decide ((p0_0.length : Int) < (2 : Int))), .p (.tup []), .p (.tup []), .p (.tup []), .p (.tup []), .p (.tup []), .p (.tup []), .b true, .b true, .p (.tup []), .p (.tup []), .p (.tup []), .p (.tup []), .p (.tup [])] : List TV).getD k TV.any) (fun k => g_utf8_Valid_r18.getD k []) [(0, none), (96, some 11), (98, some 13), (101, some 16)] [] (fun k => g_utf8_Valid_r18c.getD k []) mixed (by kernel_rfl) rfl rfl (a_op (g_x rfl (x_p rfl (p_move rfl rfl) rfl)) (a_op (g_x rfl (x_p rfl (p_lenl rfl Tryd.underlying33 rfl rfl) rfl)) (a_op (g_x rfl (x_p rfl (p_bin rfl rfl rfl rfl) rfl)) (a_op (g_x rfl (x_p rfl (p_move rfl rfl) rfl)) (a_op (g_off rfl rfl rfl rfl rfl (decide_eq_true h36) rfl rfl) (a_op (g_off rfl rfl rfl rfl rfl (decide_eq_true h36) rfl rfl) (a_op (g_off rfl rfl rfl rfl rfl (decide_eq_true h36) rfl rfl) (a_op (g_off rfl rfl rfl rfl rfl (decide_eq_true h36) rfl rfl) (a_op (g_off rfl rfl rfl rfl rfl (decide_eq_true h36) rfl rfl) (a_op (g_off rfl rfl rfl rfl rfl (decide_eq_true h36) rfl rfl) (a_op (g_x rfl (x_p rfl (p_pkt rfl rfl (decide_eq_true h36) (.same _)) rfl)) (a_op (g_x rfl (x_p rfl (p_move rfl rfl) rfl)) (a_op (g_off rfl rfl rfl rfl rfl rfl rfl rfl) (a_op (g_off rfl rfl rfl rfl rfl rfl rfl rfl) (a_op (g_off rfl rfl rfl rfl rfl rfl rfl rfl) (a_op (g_off rfl rfl rfl rfl rfl rfl rfl rfl) (a_op (g_off rfl rfl rfl rfl rfl rfl rfl rfl) (a_nil)))))))))))))))))) ?_
       refine t_off rfl rfl rfl rfl rfl rfl rfl ?_
       refine t_op rfl rfl (PureD.opD (p_pkt rfl rfl rfl (.same _))) ?_
       refine t_gho (Gho_st (L := [(0, .y p0_0), (103, .b true)]) (H := []) (N := 188) rfl ⟨TLes.same _, TLes.same _, trivial⟩ trivial) ?_
       exact rfl
      ·replace H := ite_else h36 H
       refine chkK H fun h37 H => ?_
       refine (Classical.em ((lrd p0_0 1) < accept6'19.lo_)).elim (fun h38 => ?_) (fun h38 => ?_)
       ·replace H := ite_then h38 H
        have hz := some_elim H
        subst hz
        refine AW2_ghoQ ?_
        refine AW2_draw 17 [17, 18] (fun k => ([.y p0_0, .i (p0_0.length : Int), .b (decide ((p0_0.length : Int) < (2 : Int))), .b (decide ((p0_0.length : Int) < (2 : Int))), .y p0_0, .p (.rptr (bcells p0_0) (1 * 1)), .p (AV.b8 (lrd p0_0 1)), .q 6 (0 + 0), .p (AV.b8 accept6'19.lo_), .b (decide ((lrd p0_0 1) < accept6'19.lo_)), .b (decide ((lrd p0_0 1) < accept6'19.lo_)), .b (decide ((lrd p0_0 1) < accept6'19.lo_)), .p (.tup []), .p (.tup []), .p (.tup []), .p (.tup []), .p (.tup [])] : List TV).getD k TV.any) (fun k => g_utf8_Valid_r18.getD k []) [(0, none), (96, some 11), (98, some 13), (101, some 16)] [] (fun k => g_utf8_Valid_r18c.getD k []) mixed (by kernel_rfl) rfl rfl (a_op (g_x rfl (x_p rfl (p_move rfl rfl) rfl)) (a_op (g_x rfl (x_p rfl (p_lenl rfl Tryd.underlying33 rfl rfl) rfl)) (a_op (g_x rfl (x_p rfl (p_bin rfl rfl rfl rfl) rfl)) (a_op (g_x rfl (x_p rfl (p_move rfl rfl) rfl)) (a_op (g_on rfl rfl rfl (decide_eq_false h36) rfl (x_p rfl (p_move rfl rfl) rfl)) (a_op (g_on rfl rfl rfl (decide_eq_false h36) rfl (x_p rfl (u_ixl rfl rfl Tryd.underlying33 in_5 rfl rfl rfl h37 (lne h37)) rfl)) (a_op (g_on rfl rfl rfl (decide_eq_false h36) rfl (x_p rfl (u_ld rfl rfl Tryd.underlying5 rfl rfl (Sub.map default h37)) rfl)) (a_op (g_on rfl rfl rfl (decide_eq_false h36) rfl (x_p rfl (u_fa rfl rfl Tryd.underlying90 rfl in_5 (Nat.succ_ne_zero _) rfl rfl (ne_of_lt (n := 0) (Nat.lt_of_lt_of_eq (by decide) (Eq.symm (Gutf8_acceptRange.len accept6'19))))) rfl)) (a_op (g_on rfl rfl rfl (decide_eq_false h36) rfl (x_p rfl (u_ld rfl rfl Tryd.underlying5 rfl rfl ((Sub.refl _).trans (Gutf8_acceptRange.sub0 accept6'19))) rfl)) (a_op (g_on rfl rfl rfl (decide_eq_false h36) rfl (x_p rfl (p_u8lt (a := (lrd p0_0 1)) (b := accept6'19.lo_) rfl rfl rfl) rfl)) (a_op (g_x rfl (x_p rfl (p_pkf rfl rfl (decide_eq_false h36) (.same _)) rfl)) (a_op (g_x rfl (x_p rfl (p_move rfl rfl) rfl)) (a_op (g_off rfl rfl rfl rfl rfl (decide_eq_true h38) rfl rfl) (a_op (g_off rfl rfl rfl rfl rfl (decide_eq_true h38) rfl rfl) (a_op (g_off rfl rfl rfl rfl rfl (decide_eq_true h38) rfl rfl) (a_op (g_off rfl rfl rfl rfl rfl (decide_eq_true h38) rfl rfl) (a_op (g_off rfl rfl rfl rfl rfl (decide_eq_true h38) rfl rfl) (a_nil)))))))))))))))))) ?_
        refine t_off rfl rfl rfl rfl (decide_eq_true h38) rfl rfl ?_
        refine t_op rfl rfl (PureD.opD (p_pkt rfl rfl (decide_eq_true h38) (.same _))) ?_
        refine t_gho (Gho_st (L := [(0, .y p0_0), (103, .b true)]) (H := []) (N := 188) rfl ⟨TLes.same _, TLes.same _, trivial⟩ trivial) ?_
        exact rfl
       ·replace H := ite_else h38 H
        refine chkK H fun h39 H => ?_
        have hz := some_elim H
        subst hz
        refine AW2_ghoQ ?_
        refine AW2_draw 17 [17, 18] (fun k => ([.y p0_0, .i (p0_0.length : Int), .b (decide ((p0_0.length : Int) < (2 : Int))), .b (decide ((p0_0.length : Int) < (2 : Int))), .y p0_0, .p (.rptr (bcells p0_0) (1 * 1)), .p (AV.b8 (lrd p0_0 1)), .q 6 (0 + 0), .p (AV.b8 accept6'19.lo_), .b (decide ((lrd p0_0 1) < accept6'19.lo_)), .b (decide ((lrd p0_0 1) < accept6'19.lo_)), .b (decide ((lrd p0_0 1) < accept6'19.lo_)), .q 6 (0 + 1), .p (AV.b8 accept6'19.hi_), .y p0_0, .p (.rptr (bcells p0_0) (1 * 1)), .p (AV.b8 (lrd p0_0 1))] : List TV).getD k TV.any) (fun k => g_utf8_Valid_r18.getD k []) [(0, none), (96, some 11), (98, some 13), (101, some 16)] [] (fun k => g_utf8_Valid_r18c.getD k []) mixed (by kernel_rfl) rfl rfl (a_op (g_x rfl (x_p rfl (p_move rfl rfl) rfl)) (a_op (g_x rfl (x_p rfl (p_lenl rfl Tryd.underlying33 rfl rfl) rfl)) (a_op (g_x rfl (x_p rfl (p_bin rfl rfl rfl rfl) rfl)) (a_op (g_x rfl (x_p rfl (p_move rfl rfl) rfl)) (a_op (g_on rfl rfl rfl (decide_eq_false h36) rfl (x_p rfl (p_move rfl rfl) rfl)) (a_op (g_on rfl rfl rfl (decide_eq_false h36) rfl (x_p rfl (u_ixl rfl rfl Tryd.underlying33 in_5 rfl rfl rfl h37 (lne h37)) rfl)) (a_op (g_on rfl rfl rfl (decide_eq_false h36) rfl (x_p rfl (u_ld rfl rfl Tryd.underlying5 rfl rfl (Sub.map default h37)) rfl)) (a_op (g_on rfl rfl rfl (decide_eq_false h36) rfl (x_p rfl (u_fa rfl rfl Tryd.underlying90 rfl in_5 (Nat.succ_ne_zero _) rfl rfl (ne_of_lt (n := 0) (Nat.lt_of_lt_of_eq (by decide) (Eq.symm (Gutf8_acceptRange.len accept6'19))))) rfl)) (a_op (g_on rfl rfl rfl (decide_eq_false h36) rfl (x_p rfl (u_ld rfl rfl Tryd.underlying5 rfl rfl ((Sub.refl _).trans (Gutf8_acceptRange.sub0 accept6'19))) rfl)) (a_op (g_on rfl rfl rfl (decide_eq_false h36) rfl (x_p rfl (p_u8lt (a := (lrd p0_0 1)) (b := accept6'19.lo_) rfl rfl rfl) rfl)) (a_op (g_x rfl (x_p rfl (p_pkf rfl rfl (decide_eq_false h36) (.same _)) rfl)) (a_op (g_x rfl (x_p rfl (p_move rfl rfl) rfl)) (a_op (g_on rfl rfl rfl (decide_eq_false h38) rfl (x_p rfl (u_fa rfl rfl Tryd.underlying90 rfl in_5 (Nat.succ_ne_zero _) rfl rfl (ne_of_lt (n := 0) (Nat.lt_of_lt_of_eq (by decide) (Eq.symm (Gutf8_acceptRange.len accept6'19))))) rfl)) (a_op (g_on rfl rfl rfl (decide_eq_false h38) rfl (x_p rfl (u_ld rfl rfl Tryd.underlying5 rfl rfl ((Sub.refl _).trans (Gutf8_acceptRange.sub1 accept6'19))) rfl)) (a_op (g_on rfl rfl rfl (decide_eq_false h38) rfl (x_p rfl (p_move rfl rfl) rfl)) (a_op (g_on rfl rfl rfl (decide_eq_false h38) rfl (x_p rfl (u_ixl rfl rfl Tryd.underlying33 in_5 rfl rfl rfl h39 (lne h39)) rfl)) (a_op (g_on rfl rfl rfl (decide_eq_false h38) rfl (x_p rfl (u_ld rfl rfl Tryd.underlying5 rfl rfl (Sub.map default h39)) rfl)) (a_nil)))))))))))))))))) ?_
        refine t_on rfl rfl rfl rfl (decide_eq_false h38) rfl (PureD.opD (p_u8lt (a := accept6'19.hi_) (b := (lrd p0_0 1)) rfl rfl rfl)) ?_
        refine t_op rfl rfl (PureD.opD (p_pkf rfl rfl (decide_eq_false h38) (.same _))) ?_
        refine t_gho (Gho_st (L := [(0, .y p0_0), (103, .b (decide (accept6'19.hi_ < (lrd p0_0 1))))]) (H := []) (N := 188) rfl ⟨TLes.same _, TLes.same _, trivial⟩ trivial) ?_
        exact rfl
     ·refine AW2_cond rfl (fun h41 => ?_) (fun h41 => ?_)
      ·replace H := ite_then h41 H
       refine sg [0] rfl ?_
       refine rp rfl rfl (p_asg rfl rfl) ?_
       refine rz [(2, .b false)] [] rfl rfl rfl ?_
       refine AW2_ret ?_
       have hz := some_elim H
       subst hz
       exact ⟨rfl, ⟨res_tmp (.same _), trivial⟩, trivial⟩
      ·replace H := ite_else (ne_true h41) H
       refine as2 [(0, .y p0_0)] [] rfl rfl rfl ?_
       refine AW2_skip ?_
       refine AW2_reg [0, 1, 2] rfl ?_
       refine rp rfl rfl (p_move rfl rfl) ?_
       refine chkK H fun h42 H => ?_
       refine rp rfl rfl (u_cutl (g := (fun l => bcells l)) (a := (2 : Int)) (b := (p0_0.length : Int)) rfl rfl Tryd.underlying33 in_5 rfl (bT_i (show 0 ≤ (2 : Int) ∧ (2 : Int) ≤ (p0_0.length : Int) ∧ (p0_0.length : Int) ≤ (p0_0.length : Int) from ⟨h42.1, h42.2, Int.le_refl _⟩).1 rfl) (bT_len _) (.inl rfl) (show 0 ≤ (2 : Int) ∧ (2 : Int) ≤ (p0_0.length : Int) ∧ (p0_0.length : Int) ≤ (p0_0.length : Int) from ⟨h42.1, h42.2, Int.le_refl _⟩) (g_bytes)) ?_
       refine rp rfl rfl (p_asg rfl rfl) ?_
       refine rz [(0, .y (cut p0_0 (2 : Int) (p0_0.length : Int)))] [] rfl rfl rfl ?_
       have hz := some_elim H
       subst hz
       exact ⟨rfl, rfl⟩
    ·replace H := ite_else h35 H
     refine sg [0, 1] rfl ?_
     refine rp rfl rfl (p_ieq rfl rfl rfl) ?_
     refine rp rfl rfl (p_asg rfl rfl) ?_
     refine rz [(0, .y p0_0), (6, .q 6 (0)), (82, .i size5'18), (106, .b (decide (size5'18 = (3 : Int))))] [(6, .pure (Gutf8_acceptRange.cs accept6'19))] rfl rfl rfl ?_
     refine AW2_if (p := size5'18 = (3 : Int)) rfl (fun h43 => ?_) (fun h43 => ?_)
     ·replace H := ite_then h43 H
      refine AW2_seq ?_
      refine AW2_seq ?_
      refine bindK H fun g'21 h52 H => ?_
      refine AW2_mid (⟨[(0, .y p0_0), (138, .b g'21)], [], 188⟩ : TS) ?_ ?_
      ·clear H
       have H := h52
       clear h52
       refine (Classical.em ((p0_0.length : Int) < (3 : Int))).elim (fun h44 => ?_) (fun h44 => ?_)
       ·replace H := ite_then h44 H
        have hz := some_elim H
        subst hz
        refine AW2_ghoQ ?_
        refine AW2_draw 17 [17, 18, 19, 20, 21, 22, 23, 24, 25, 26, 27, 28, 29, 30] (fun k => ([.y p0_0, .i (p0_0.length : Int), .b (decide ((p0_0.length : Int) < (3 : Int))), .b (decide ((p0_0.length : Int) < (3 : Int))), .p (.tup []), .p (.tup []), .p (.tup []), .p (.tup []), .p (.tup []), .p (.tup []), .b true, .b true, .p (.tup []), .p (.tup []), .p (.tup []), .p (.tup []), .p (.tup [])] : List TV).getD k TV.any) (fun k => g_utf8_Valid_r22.getD k []) [(0, none), (119, some 11), (121, some 13), (124, some 16)] [] (fun k => g_utf8_Valid_r22c.getD k []) mixed (by kernel_rfl) rfl rfl (a_op (g_x rfl (x_p rfl (p_move rfl rfl) rfl)) (a_op (g_x rfl (x_p rfl (p_lenl rfl Tryd.underlying33 rfl rfl) rfl)) (a_op (g_x rfl (x_p rfl (p_bin rfl rfl rfl rfl) rfl)) (a_op (g_x rfl (x_p rfl (p_move rfl rfl) rfl)) (a_op (g_off rfl rfl rfl rfl rfl (decide_eq_true h44) rfl rfl) (a_op (g_off rfl rfl rfl rfl rfl (decide_eq_true h44) rfl rfl) (a_op (g_off rfl rfl rfl rfl rfl (decide_eq_true h44) rfl rfl) (a_op (g_off rfl rfl rfl rfl rfl (decide_eq_true h44) rfl rfl) (a_op (g_off rfl rfl rfl rfl rfl (decide_eq_true h44) rfl rfl) (a_op (g_off rfl rfl rfl rfl rfl (decide_eq_true h44) rfl rfl) (a_op (g_x rfl (x_p rfl (p_pkt rfl rfl (decide_eq_true h44) (.same _)) rfl)) (a_op (g_x rfl (x_p rfl (p_move rfl rfl) rfl)) (a_op (g_off rfl rfl rfl rfl rfl rfl rfl rfl) (a_op (g_off rfl rfl rfl rfl rfl rfl rfl rfl) (a_op (g_off rfl rfl rfl rfl rfl rfl rfl rfl) (a_op (g_off rfl rfl rfl rfl rfl rfl rfl rfl) (a_op (g_off rfl rfl rfl rfl rfl rfl rfl rfl) (a_nil)))))))))))))))))) ?_
        refine t_off rfl rfl rfl rfl rfl rfl rfl ?_
        refine t_op rfl rfl (PureD.opD (p_pkt rfl rfl rfl (.same _))) ?_
        refine t_op rfl rfl (PureD.opD (p_move rfl rfl)) ?_
        refine t_off rfl rfl rfl rfl rfl rfl rfl ?_
        refine t_off rfl rfl rfl rfl rfl rfl rfl ?_
        refine t_off rfl rfl rfl rfl rfl rfl rfl ?_
        refine t_off rfl rfl rfl rfl rfl rfl rfl ?_
        refine t_op rfl rfl (PureD.opD (p_pkt rfl rfl rfl (.same _))) ?_
        refine t_op rfl rfl (PureD.opD (p_move rfl rfl)) ?_
        refine t_off rfl rfl rfl rfl rfl rfl rfl ?_
        refine t_off rfl rfl rfl rfl rfl rfl rfl ?_
        refine t_off rfl rfl rfl rfl rfl rfl rfl ?_
        refine t_off rfl rfl rfl rfl rfl rfl rfl ?_
        refine t_op rfl rfl (PureD.opD (p_pkt rfl rfl rfl (.same _))) ?_
        refine t_gho (Gho_st (L := [(0, .y p0_0), (138, .b true)]) (H := []) (N := 188) rfl ⟨TLes.same _, TLes.same _, trivial⟩ trivial) ?_
        exact rfl
       ·replace H := ite_else h44 H
        refine chkK H fun h45 H => ?_
        refine (Classical.em ((lrd p0_0 1) < accept6'19.lo_)).elim (fun h46 => ?_) (fun h46 => ?_)
        ·replace H := ite_then h46 H
         have hz := some_elim H
         subst hz
         refine AW2_ghoQ ?_
         refine AW2_draw 17 [17, 18, 19, 20, 21, 22, 23, 24, 25, 26, 27, 28, 29, 30] (fun k => ([.y p0_0, .i (p0_0.length : Int), .b (decide ((p0_0.length : Int) < (3 : Int))), .b (decide ((p0_0.length : Int) < (3 : Int))), .y p0_0, .p (.rptr (bcells p0_0) (1 * 1)), .p (AV.b8 (lrd p0_0 1)), .q 6 (0 + 0), .p (AV.b8 accept6'19.lo_), .b (decide ((lrd p0_0 1) < accept6'19.lo_)), .b (decide ((lrd p0_0 1) < accept6'19.lo_)), .b (decide ((lrd p0_0 1) < accept6'19.lo_)), .p (.tup []), .p (.tup []), .p (.tup []), .p (.tup []), .p (.tup [])] : List TV).getD k TV.any) (fun k => g_utf8_Valid_r22.getD k []) [(0, none), (119, some 11), (121, some 13), (124, some 16)] [] (fun k => g_utf8_Valid_r22c.getD k []) mixed (by kernel_rfl) rfl rfl (a_op (g_x rfl (x_p rfl (p_move rfl rfl) rfl)) (a_op (g_x rfl (x_p rfl (p_lenl rfl Tryd.underlying33 rfl rfl) rfl)) (a_op (g_x rfl (x_p rfl (p_bin rfl rfl rfl rfl) rfl)) (a_op (g_x rfl (x_p rfl (p_move rfl rfl) rfl)) (a_op (g_on rfl rfl rfl (decide_eq_false h44) rfl (x_p rfl (p_move rfl rfl) rfl)) (a_op (g_on rfl rfl rfl (decide_eq_false h44) rfl (x_p rfl (u_ixl rfl rfl Tryd.underlying33 in_5 rfl rfl rfl h45 (lne h45)) rfl)) (a_op (g_on rfl rfl rfl (decide_eq_false h44) rfl (x_p rfl (u_ld rfl rfl Tryd.underlying5 rfl rfl (Sub.map default h45)) rfl)) (a_op (g_on rfl rfl rfl (decide_eq_false h44) rfl (x_p rfl (u_fa rfl rfl Tryd.underlying90 rfl in_5 (Nat.succ_ne_zero _) rfl rfl (ne_of_lt (n := 0) (Nat.lt_of_lt_of_eq (by decide) (Eq.symm (Gutf8_acceptRange.len accept6'19))))) rfl)) (a_op (g_on rfl rfl rfl (decide_eq_false h44) rfl (x_p rfl (u_ld rfl rfl Tryd.underlying5 rfl rfl ((Sub.refl _).trans (Gutf8_acceptRange.sub0 accept6'19))) rfl)) (a_op (g_on rfl rfl rfl (decide_eq_false h44) rfl (x_p rfl (p_u8lt (a := (lrd p0_0 1)) (b := accept6'19.lo_) rfl rfl rfl) rfl)) (a_op (g_x rfl (x_p rfl (p_pkf rfl rfl (decide_eq_false h44) (.same _)) rfl)) (a_op (g_x rfl (x_p rfl (p_move rfl rfl) rfl)) (a_op (g_off rfl rfl rfl rfl rfl (decide_eq_true h46) rfl rfl) (a_op (g_off rfl rfl rfl rfl rfl (decide_eq_true h46) rfl rfl) (a_op (g_off rfl rfl rfl rfl rfl (decide_eq_true h46) rfl rfl) (a_op (g_off rfl rfl rfl rfl rfl (decide_eq_true h46) rfl rfl) (a_op (g_off rfl rfl rfl rfl rfl (decide_eq_true h46) rfl rfl) (a_nil)))))))))))))))))) ?_
         refine t_off rfl rfl rfl rfl (decide_eq_true h46) rfl rfl ?_
         refine t_op rfl rfl (PureD.opD (p_pkt rfl rfl (decide_eq_true h46) (.same _))) ?_
         refine t_op rfl rfl (PureD.opD (p_move rfl rfl)) ?_
         refine t_off rfl rfl rfl rfl rfl rfl rfl ?_
         refine t_off rfl rfl rfl rfl rfl rfl rfl ?_
         refine t_off rfl rfl rfl rfl rfl rfl rfl ?_
         refine t_off rfl rfl rfl rfl rfl rfl rfl ?_
         refine t_op rfl rfl (PureD.opD (p_pkt rfl rfl rfl (.same _))) ?_
         refine t_op rfl rfl (PureD.opD (p_move rfl rfl)) ?_
         refine t_off rfl rfl rfl rfl rfl rfl rfl ?_
         refine t_off rfl rfl rfl rfl rfl rfl rfl ?_
         refine t_off rfl rfl rfl rfl rfl rfl rfl ?_
         refine t_off rfl rfl rfl rfl rfl rfl rfl ?_
         refine t_op rfl rfl (PureD.opD (p_pkt rfl rfl rfl (.same _))) ?_
         refine t_gho (Gho_st (L := [(0, .y p0_0), (138, .b true)]) (H := []) (N := 188) rfl ⟨TLes.same _, TLes.same _, trivial⟩ trivial) ?_
         exact rfl
        ·replace H := ite_else h46 H
         refine chkK H fun h47 H => ?_
         refine (Classical.em (accept6'19.hi_ < (lrd p0_0 1))).elim (fun h48 => ?_) (fun h48 => ?_)
         ·replace H := ite_then h48 H
          have hz := some_elim H
          subst hz
          refine AW2_ghoQ ?_
          refine AW2_draw 17 [17, 18, 19, 20, 21, 22, 23, 24, 25, 26, 27, 28, 29, 30] (fun k => ([.y p0_0, .i (p0_0.length : Int), .b (decide ((p0_0.length : Int) < (3 : Int))), .b (decide ((p0_0.length : Int) < (3 : Int))), .y p0_0, .p (.rptr (bcells p0_0) (1 * 1)), .p (AV.b8 (lrd p0_0 1)), .q 6 (0 + 0), .p (AV.b8 accept6'19.lo_), .b (decide ((lrd p0_0 1) < accept6'19.lo_)), .b (decide ((lrd p0_0 1) < accept6'19.lo_)), .b (decide ((lrd p0_0 1) < accept6'19.lo_)), .q 6 (0 + 1), .p (AV.b8 accept6'19.hi_), .y p0_0, .p (.rptr (bcells p0_0) (1 * 1)), .p (AV.b8 (lrd p0_0 1))] : List TV).getD k TV.any) (fun k => g_utf8_Valid_r22.getD k []) [(0, none), (119, some 11), (121, some 13), (124, some 16)] [] (fun k => g_utf8_Valid_r22c.getD k []) mixed (by kernel_rfl) rfl rfl (a_op (g_x rfl (x_p rfl (p_move rfl rfl) rfl)) (a_op (g_x rfl (x_p rfl (p_lenl rfl Tryd.underlying33 rfl rfl) rfl)) (a_op (g_x rfl (x_p rfl (p_bin rfl rfl rfl rfl) rfl)) (a_op (g_x rfl (x_p rfl (p_move rfl rfl) rfl)) (a_op (g_on rfl rfl rfl (decide_eq_false h44) rfl (x_p rfl (p_move rfl rfl) rfl)) (a_op (g_on rfl rfl rfl (decide_eq_false h44) rfl (x_p rfl (u_ixl rfl rfl Tryd.underlying33 in_5 rfl rfl rfl h45 (lne h45)) rfl)) (a_op (g_on rfl rfl rfl (decide_eq_false h44) rfl (x_p rfl (u_ld rfl rfl Tryd.underlying5 rfl rfl (Sub.map default h45)) rfl)) (a_op (g_on rfl rfl rfl (decide_eq_false h44) rfl (x_p rfl (u_fa rfl rfl Tryd.underlying90 rfl in_5 (Nat.succ_ne_zero _) rfl rfl (ne_of_lt (n := 0) (Nat.lt_of_lt_of_eq (by decide) (Eq.symm (Gutf8_acceptRange.len accept6'19))))) rfl)) (a_op (g_on rfl rfl rfl (decide_eq_false h44) rfl (x_p rfl (u_ld rfl rfl Tryd.underlying5 rfl rfl ((Sub.refl _).trans (Gutf8_acceptRange.sub0 accept6'19))) rfl)) (a_op (g_on rfl rfl rfl (decide_eq_false h44) rfl (x_p rfl (p_u8lt (a := (lrd p0_0 1)) (b := accept6'19.lo_) rfl rfl rfl) rfl)) (a_op (g_x rfl (x_p rfl (p_pkf rfl rfl (decide_eq_false h44) (.same _)) rfl)) (a_op (g_x rfl (x_p rfl (p_move rfl rfl) rfl)) (a_op (g_on rfl rfl rfl (decide_eq_false h46) rfl (x_p rfl (u_fa rfl rfl Tryd.underlying90 rfl in_5 (Nat.succ_ne_zero _) rfl rfl (ne_of_lt (n := 0) (Nat.lt_of_lt_of_eq (by decide) (Eq.symm (Gutf8_acceptRange.len accept6'19))))) rfl)) (a_op (g_on rfl rfl rfl (decide_eq_false h46) rfl (x_p rfl (u_ld rfl rfl Tryd.underlying5 rfl rfl ((Sub.refl _).trans (Gutf8_acceptRange.sub1 accept6'19))) rfl)) (a_op (g_on rfl rfl rfl (decide_eq_false h46) rfl (x_p rfl (p_move rfl rfl) rfl)) (a_op (g_on rfl rfl rfl (decide_eq_false h46) rfl (x_p rfl (u_ixl rfl rfl Tryd.underlying33 in_5 rfl rfl rfl h47 (lne h47)) rfl)) (a_op (g_on rfl rfl rfl (decide_eq_false h46) rfl (x_p rfl (u_ld rfl rfl Tryd.underlying5 rfl rfl (Sub.map default h47)) rfl)) (a_nil)))))))))))))))))) ?_
          refine t_on rfl rfl rfl rfl (decide_eq_false h46) rfl (PureD.opD (p_u8lt (a := accept6'19.hi_) (b := (lrd p0_0 1)) rfl rfl rfl)) ?_
          refine t_op rfl rfl (PureD.opD (p_pkf rfl rfl (decide_eq_false h46) (.same _))) ?_
          refine t_op rfl rfl (PureD.opD (p_move rfl rfl)) ?_
          refine t_off rfl rfl rfl rfl (decide_eq_true h48) rfl rfl ?_
          refine t_off rfl rfl rfl rfl (decide_eq_true h48) rfl rfl ?_
          refine t_off rfl rfl rfl rfl (decide_eq_true h48) rfl rfl ?_
          refine t_off rfl rfl rfl rfl (decide_eq_true h48) rfl rfl ?_
          refine t_op rfl rfl (PureD.opD (p_pkt rfl rfl (decide_eq_true h48) (.same _))) ?_
          refine t_op rfl rfl (PureD.opD (p_move rfl rfl)) ?_
          refine t_off rfl rfl rfl rfl rfl rfl rfl ?_
          refine t_off rfl rfl rfl rfl rfl rfl rfl ?_
          refine t_off rfl rfl rfl rfl rfl rfl rfl ?_
          refine t_off rfl rfl rfl rfl rfl rfl rfl ?_
          refine t_op rfl rfl (PureD.opD (p_pkt rfl rfl rfl (.same _))) ?_
          refine t_gho (Gho_st (L := [(0, .y p0_0), (138, .b true)]) (H := []) (N := 188) rfl ⟨TLes.same _, TLes.same _, trivial⟩ trivial) ?_
          exact rfl
         ·replace H := ite_else h48 H
          refine chkK H fun h49 H => ?_
          refine (Classical.em ((lrd p0_0 2) < (128 : UInt8))).elim (fun h50 => ?_) (fun h50 => ?_)
          ·replace H := ite_then h50 H
           have hz := some_elim H
           subst hz
           refine AW2_ghoQ ?_
           refine AW2_draw 17 [17, 18, 19, 20, 21, 22, 23, 24, 25, 26, 27, 28, 29, 30] (fun k => ([.y p0_0, .i (p0_0.length : Int), .b (decide ((p0_0.length : Int) < (3 : Int))), .b (decide ((p0_0.length : Int) < (3 : Int))), .y p0_0, .p (.rptr (bcells p0_0) (1 * 1)), .p (AV.b8 (lrd p0_0 1)), .q 6 (0 + 0), .p (AV.b8 accept6'19.lo_), .b (decide ((lrd p0_0 1) < accept6'19.lo_)), .b (decide ((lrd p0_0 1) < accept6'19.lo_)), .b (decide ((lrd p0_0 1) < accept6'19.lo_)), .q 6 (0 + 1), .p (AV.b8 accept6'19.hi_), .y p0_0, .p (.rptr (bcells p0_0) (1 * 1)), .p (AV.b8 (lrd p0_0 1))] : List TV).getD k TV.any) (fun k => g_utf8_Valid_r22.getD k []) [(0, none), (119, some 11), (121, some 13), (124, some 16)] [] (fun k => g_utf8_Valid_r22c.getD k []) mixed (by kernel_rfl) rfl rfl (a_op (g_x rfl (x_p rfl (p_move rfl rfl) rfl)) (a_op (g_x rfl (x_p rfl (p_lenl rfl Tryd.underlying33 rfl rfl) rfl)) (a_op (g_x rfl (x_p rfl (p_bin rfl rfl rfl rfl) rfl)) (a_op (g_x rfl (x_p rfl (p_move rfl rfl) rfl)) (a_op (g_on rfl rfl rfl (decide_eq_false h44) rfl (x_p rfl (p_move rfl rfl) rfl)) (a_op (g_on rfl rfl rfl (decide_eq_false h44) rfl (x_p rfl (u_ixl rfl rfl Tryd.underlying33 in_5 rfl rfl rfl h45 (lne h45)) rfl)) (a_op (g_on rfl rfl rfl (decide_eq_false h44) rfl (x_p rfl (u_ld rfl rfl Tryd.underlying5 rfl rfl (Sub.map default h45)) rfl)) (a_op (g_on rfl rfl rfl (decide_eq_false h44) rfl (x_p rfl (u_fa rfl rfl Tryd.underlying90 rfl in_5 (Nat.succ_ne_zero _) rfl rfl (ne_of_lt (n := 0) (Nat.lt_of_lt_of_eq (by decide) (Eq.symm (Gutf8_acceptRange.len accept6'19))))) rfl)) (a_op (g_on rfl rfl rfl (decide_eq_false h44) rfl (x_p rfl (u_ld rfl rfl Tryd.underlying5 rfl rfl ((Sub.refl _).trans (Gutf8_acceptRange.sub0 accept6'19))) rfl)) (a_op (g_on rfl rfl rfl (decide_eq_false h44) rfl (x_p rfl (p_u8lt (a := (lrd p0_0 1)) (b := accept6'19.lo_) rfl rfl rfl) rfl)) (a_op (g_x rfl (x_p rfl (p_pkf rfl rfl (decide_eq_false h44) (.same _)) rfl)) (a_op (g_x rfl (x_p rfl (p_move rfl rfl) rfl)) (a_op (g_on rfl rfl rfl (decide_eq_false h46) rfl (x_p rfl (u_fa rfl rfl Tryd.underlying90 rfl in_5 (Nat.succ_ne_zero _) rfl rfl (ne_of_lt (n := 0) (Nat.lt_of_lt_of_eq (by decide) (Eq.symm (Gutf8_acceptRange.len accept6'19))))) rfl)) (a_op (g_on rfl rfl rfl (decide_eq_false h46) rfl (x_p rfl (u_ld rfl rfl Tryd.underlying5 rfl rfl ((Sub.refl _).trans (Gutf8_acceptRange.sub1 accept6'19))) rfl)) (a_op (g_on rfl rfl rfl (decide_eq_false h46) rfl (x_p rfl (p_move rfl rfl) rfl)) (a_op (g_on rfl rfl rfl (decide_eq_false h46) rfl (x_p rfl (u_ixl rfl rfl Tryd.underlying33 in_5 rfl rfl rfl h47 (lne h47)) rfl)) (a_op (g_on rfl rfl rfl (decide_eq_false h46) rfl (x_p rfl (u_ld rfl rfl Tryd.underlying5 rfl rfl (Sub.map default h47)) rfl)) (a_nil)))))))))))))))))) ?_
           refine t_on rfl rfl rfl rfl (decide_eq_false h46) rfl (PureD.opD (p_u8lt (a := accept6'19.hi_) (b := (lrd p0_0 1)) rfl rfl rfl)) ?_
           refine t_op rfl rfl (PureD.opD (p_pkf rfl rfl (decide_eq_false h46) (.same _))) ?_
           refine t_op rfl rfl (PureD.opD (p_move rfl rfl)) ?_
           refine t_on rfl rfl rfl rfl (decide_eq_false h48) rfl (PureD.opD (p_move rfl rfl)) ?_
           refine t_on rfl rfl rfl rfl (decide_eq_false h48) rfl (PureD.opD (u_ixl rfl rfl Tryd.underlying33 in_5 rfl rfl rfl h49 (lne h49))) ?_
           refine t_on rfl rfl rfl rfl (decide_eq_false h48) rfl (PureD.opD (u_ld rfl rfl Tryd.underlying5 rfl rfl (Sub.map default h49))) ?_
           refine t_on rfl rfl rfl rfl (decide_eq_false h48) rfl (PureD.opD (p_u8lt (a := (lrd p0_0 2)) (b := (128 : UInt8)) rfl rfl rfl)) ?_
           refine t_op rfl rfl (PureD.opD (p_pkf rfl rfl (decide_eq_false h48) (.same _))) ?_
           refine t_op rfl rfl (PureD.opD (p_move rfl rfl)) ?_
           refine t_off rfl rfl rfl rfl (decide_eq_true h50) rfl rfl ?_
           refine t_off rfl rfl rfl rfl (decide_eq_true h50) rfl rfl ?_
           refine t_off rfl rfl rfl rfl (decide_eq_true h50) rfl rfl ?_
           refine t_off rfl rfl rfl rfl (decide_eq_true h50) rfl rfl ?_
           refine t_op rfl rfl (PureD.opD (p_pkt rfl rfl (decide_eq_true h50) (.same _))) ?_
           refine t_gho (Gho_st (L := [(0, .y p0_0), (138, .b true)]) (H := []) (N := 188) rfl ⟨TLes.same _, TLes.same _, trivial⟩ trivial) ?_
           exact rfl
          ·replace H := ite_else h50 H
           refine chkK H fun h51 H => ?_
           have hz := some_elim H
           subst hz
           refine AW2_ghoQ ?_
           refine AW2_draw 17 [17, 18, 19, 20, 21, 22, 23, 24, 25, 26, 27, 28, 29, 30] (fun k => ([.y p0_0, .i (p0_0.length : Int), .b (decide ((p0_0.length : Int) < (3 : Int))), .b (decide ((p0_0.length : Int) < (3 : Int))), .y p0_0, .p (.rptr (bcells p0_0) (1 * 1)), .p (AV.b8 (lrd p0_0 1)), .q 6 (0 + 0), .p (AV.b8 accept6'19.lo_), .b (decide ((lrd p0_0 1) < accept6'19.lo_)), .b (decide ((lrd p0_0 1) < accept6'19.lo_)), .b (decide ((lrd p0_0 1) < accept6'19.lo_)), .q 6 (0 + 1), .p (AV.b8 accept6'19.hi_), .y p0_0, .p (.rptr (bcells p0_0) (1 * 1)), .p (AV.b8 (lrd p0_0 1))] : List TV).getD k TV.any) (fun k => g_utf8_Valid_r22.getD k []) [(0, none), (119, some 11), (121, some 13), (124, some 16)] [] (fun k => g_utf8_Valid_r22c.getD k []) mixed (by kernel_rfl) rfl rfl (a_op (g_x rfl (x_p rfl (p_move rfl rfl) rfl)) (a_op (g_x rfl (x_p rfl (p_lenl rfl Tryd.underlying33 rfl rfl) rfl)) (a_op (g_x rfl (x_p rfl (p_bin rfl rfl rfl rfl) rfl)) (a_op (g_x rfl (x_p rfl (p_move rfl rfl) rfl)) (a_op (g_on rfl rfl rfl (decide_eq_false h44) rfl (x_p rfl (p_move rfl rfl) rfl)) (a_op (g_on rfl rfl rfl (decide_eq_false h44) rfl (x_p rfl (u_ixl rfl rfl Tryd.underlying33 in_5 rfl rfl rfl h45 (lne h45)) rfl)) (a_op (g_on rfl rfl rfl (decide_eq_false h44) rfl (x_p rfl (u_ld rfl rfl Tryd.underlying5 rfl rfl (Sub.map default h45)) rfl)) (a_op (g_on rfl rfl rfl (decide_eq_false h44) rfl (x_p rfl (u_fa rfl rfl Tryd.underlying90 rfl in_5 (Nat.succ_ne_zero _) rfl rfl (ne_of_lt (n := 0) (Nat.lt_of_lt_of_eq (by decide) (Eq.symm (Gutf8_acceptRange.len accept6'19))))) rfl)) (a_op (g_on rfl rfl rfl (decide_eq_false h44) rfl (x_p rfl (u_ld rfl rfl Tryd.underlying5 rfl rfl ((Sub.refl _).trans (Gutf8_acceptRange.sub0 accept6'19))) rfl)) (a_op (g_on rfl rfl rfl (decide_eq_false h44) rfl (x_p rfl (p_u8lt (a := (lrd p0_0 1)) (b := accept6'19.lo_) rfl rfl rfl) rfl)) (a_op (g_x rfl (x_p rfl (p_pkf rfl rfl (decide_eq_false h44) (.same _)) rfl)) (a_op (g_x rfl (x_p rfl (p_move rfl rfl) rfl)) (a_op (g_on rfl rfl rfl (decide_eq_false h46) rfl (x_p rfl (u_fa rfl rfl Tryd.underlying90 rfl in_5 (Nat.succ_ne_zero _) rfl rfl (ne_of_lt (n := 0) (Nat.lt_of_lt_of_eq (by decide) (Eq.symm (Gutf8_acceptRange.len accept6'19))))) rfl)) (a_op (g_on rfl rfl rfl (decide_eq_false h46) rfl (x_p rfl (u_ld rfl rfl Tryd.underlying5 rfl rfl ((Sub.refl _).trans (Gutf8_acceptRange.sub1 accept6'19))) rfl)) (a_op (g_on rfl rfl rfl (decide_eq_false h46) rfl (x_p rfl (p_move rfl rfl) rfl)) (a_op (g_on rfl rfl rfl (decide_eq_false h46) rfl (x_p rfl (u_ixl rfl rfl Tryd.underlying33 in_5 rfl rfl rfl h47 (lne h47)) rfl)) (a_op (g_on rfl rfl rfl (decide_eq_false h46) rfl (x_p rfl (u_ld rfl rfl Tryd.underlying5 rfl rfl (Sub.map default h47)) rfl)) (a_nil)))))))))))))))))) ?_
           refine t_on rfl rfl rfl rfl (decide_eq_false h46) rfl (PureD.opD (p_u8lt (a := accept6'19.hi_) (b := (lrd p0_0 1)) rfl rfl rfl)) ?_
           refine t_op rfl rfl (PureD.opD (p_pkf rfl rfl (decide_eq_false h46) (.same _))) ?_
           refine t_op rfl rfl (PureD.opD (p_move rfl rfl)) ?_
           refine t_on rfl rfl rfl rfl (decide_eq_false h48) rfl (PureD.opD (p_move rfl rfl)) ?_
           refine t_on rfl rfl rfl rfl (decide_eq_false h48) rfl (PureD.opD (u_ixl rfl rfl Tryd.underlying33 in_5 rfl rfl rfl h49 (lne h49))) ?_
           refine t_on rfl rfl rfl rfl (decide_eq_false h48) rfl (PureD.opD (u_ld rfl rfl Tryd.underlying5 rfl rfl (Sub.map default h49))) ?_
           refine t_on rfl rfl rfl rfl (decide_eq_false h48) rfl (PureD.opD (p_u8lt (a := (lrd p0_0 2)) (b := (128 : UInt8)) rfl rfl rfl)) ?_
           refine t_op rfl rfl (PureD.opD (p_pkf rfl rfl (decide_eq_false h48) (.same _))) ?_
           refine t_op rfl rfl (PureD.opD (p_move rfl rfl)) ?_
           refine t_on rfl rfl rfl rfl (decide_eq_false h50) rfl (PureD.opD (p_move rfl rfl)) ?_
           refine t_on rfl rfl rfl rfl (decide_eq_false h50) rfl (PureD.opD (u_ixl rfl rfl Tryd.underlying33 in_5 rfl rfl rfl h51 (lne h51))) ?_
           refine t_on rfl rfl rfl rfl (decide_eq_false h50) rfl (PureD.opD (u_ld rfl rfl Tryd.underlying5 rfl rfl (Sub.map default h51))) ?_
           refine t_on rfl rfl rfl rfl (decide_eq_false h50) rfl (PureD.opD (p_u8lt (a := (191 : UInt8)) (b := (lrd p0_0 2)) rfl rfl rfl)) ?_
           refine t_op rfl rfl (PureD.opD (p_pkf rfl rfl (decide_eq_false h50) (.same _))) ?_
           refine t_gho (Gho_st (L := [(0, .y p0_0), (138, .b (decide ((191 : UInt8) < (lrd p0_0 2))))]) (H := []) (N := 188) rfl ⟨TLes.same _, TLes.same _, trivial⟩ trivial) ?_
           exact rfl
      ·refine AW2_cond rfl (fun h53 => ?_) (fun h53 => ?_)
       ·replace H := ite_then h53 H
        refine sg [0] rfl ?_
        refine rp rfl rfl (p_asg rfl rfl) ?_
        refine rz [(2, .b false)] [] rfl rfl rfl ?_
        refine AW2_ret ?_
        have hz := some_elim H
        subst hz
        exact ⟨rfl, ⟨res_tmp (.same _), trivial⟩, trivial⟩
       ·replace H := ite_else (ne_true h53) H
        refine as2 [(0, .y p0_0)] [] rfl rfl rfl ?_
        refine AW2_skip ?_
        refine AW2_reg [0, 1, 2] rfl ?_
        refine rp rfl rfl (p_move rfl rfl) ?_
        refine chkK H fun h54 H => ?_
        refine rp rfl rfl (u_cutl (g := (fun l => bcells l)) (a := (3 : Int)) (b := (p0_0.length : Int)) rfl rfl Tryd.underlying33 in_5 rfl (bT_i (show 0 ≤ (3 : Int) ∧ (3 : Int) ≤ (p0_0.length : Int) ∧ (p0_0.length : Int) ≤ (p0_0.length : Int) from ⟨h54.1, h54.2, Int.le_refl _⟩).1 rfl) (bT_len _) (.inl rfl) (show 0 ≤ (3 : Int) ∧ (3 : Int) ≤ (p0_0.length : Int) ∧ (p0_0.length : Int) ≤ (p0_0.length : Int) from ⟨h54.1, h54.2, Int.le_refl _⟩) (g_bytes)) ?_
        refine rp rfl rfl (p_asg rfl rfl) ?_
        refine rz [(0, .y (cut p0_0 (3 : Int) (p0_0.length : Int)))] [] rfl rfl rfl ?_
        have hz := some_elim H
        subst hz
        exact ⟨rfl, rfl⟩
     ·replace H := ite_else h43 H
      refine sg [0, 1] rfl ?_
      refine rp rfl rfl (p_ieq rfl rfl rfl) ?_
      refine rp rfl rfl (p_asg rfl rfl) ?_
      refine rz [(0, .y p0_0), (6, .q 6 (0)), (141, .b (decide (size5'18 = (4 : Int))))] [(6, .pure (Gutf8_acceptRange.cs accept6'19))] rfl rfl rfl ?_
      refine AW2_if (p := size5'18 = (4 : Int)) rfl (fun h55 => ?_) (fun h55 => ?_)
      ·replace H := ite_then h55 H
       refine AW2_seq ?_
       refine AW2_seq ?_
       refine bindK H fun g'22 h68 H => ?_
       refine AW2_mid (⟨[(0, .y p0_0), (185, .b g'22)], [], 188⟩ : TS) ?_ ?_
       ·clear H
        have H := h68
        clear h68
        refine (Classical.em ((p0_0.length : Int) < (4 : Int))).elim (fun h56 => ?_) (fun h56 => ?_)
        ·replace H := ite_then h56 H
         have hz := some_elim H
         subst hz
         refine AW2_ghoQ ?_
         refine AW2_draw 17 [17, 18, 19, 20, 21, 22, 23, 24, 25, 26, 27, 28, 29, 30, 31, 32, 33, 34, 35, 36, 37, 38, 39, 40, 41, 42] (fun k => ([.y p0_0, .i (p0_0.length : Int), .b (decide ((p0_0.length : Int) < (4 : Int))), .b (decide ((p0_0.length : Int) < (4 : Int))), .p (.tup []), .p (.tup []), .p (.tup []), .p (.tup []), .p (.tup []), .p (.tup []), .b true, .b true, .p (.tup []), .p (.tup []), .p (.tup []), .p (.tup []), .p (.tup [])] : List TV).getD k TV.any) (fun k => g_utf8_Valid_r26.getD k []) [(0, none), (154, some 11), (156, some 13), (159, some 16)] [] (fun k => g_utf8_Valid_r26c.getD k []) mixed (by kernel_rfl) rfl rfl (a_op (g_x rfl (x_p rfl (p_move rfl rfl) rfl)) (a_op (g_x rfl (x_p rfl (p_lenl rfl Tryd.underlying33 rfl rfl) rfl)) (a_op (g_x rfl (x_p rfl (p_bin rfl rfl rfl rfl) rfl)) (a_op (g_x rfl (x_p rfl (p_move rfl rfl) rfl)) (a_op (g_off rfl rfl rfl rfl rfl (decide_eq_true h56) rfl rfl) (a_op (g_off rfl rfl rfl rfl rfl (decide_eq_true h56) rfl rfl) (a_op (g_off rfl rfl rfl rfl rfl (decide_eq_true h56) rfl rfl) (a_op (g_off rfl rfl rfl rfl rfl (decide_eq_true h56) rfl rfl) (a_op (g_off rfl rfl rfl rfl rfl (decide_eq_true h56) rfl rfl) (a_op (g_off rfl rfl rfl rfl rfl (decide_eq_true h56) rfl rfl) (a_op (g_x rfl (x_p rfl (p_pkt rfl rfl (decide_eq_true h56) (.same _)) rfl)) (a_op (g_x rfl (x_p rfl (p_move rfl rfl) rfl)) (a_op (g_off rfl rfl rfl rfl rfl rfl rfl rfl) (a_op (g_off rfl rfl rfl rfl rfl rfl rfl rfl) (a_op (g_off rfl rfl rfl rfl rfl rfl rfl rfl) (a_op (g_off rfl rfl rfl rfl rfl rfl rfl rfl) (a_op (g_off rfl rfl rfl rfl rfl rfl rfl rfl) (a_nil)))))))))))))))))) ?_
         refine t_off rfl rfl rfl rfl rfl rfl rfl ?_
         refine t_op rfl rfl (PureD.opD (p_pkt rfl rfl rfl (.same _))) ?_
         refine t_op rfl rfl (PureD.opD (p_move rfl rfl)) ?_
         refine t_off rfl rfl rfl rfl rfl rfl rfl ?_
         refine t_off rfl rfl rfl rfl rfl rfl rfl ?_
         refine t_off rfl rfl rfl rfl rfl rfl rfl ?_
         refine t_off rfl rfl rfl rfl rfl rfl rfl ?_
         refine t_op rfl rfl (PureD.opD (p_pkt rfl rfl rfl (.same _))) ?_
         refine t_op rfl rfl (PureD.opD (p_move rfl rfl)) ?_
         refine t_off rfl rfl rfl rfl rfl rfl rfl ?_
         refine t_off rfl rfl rfl rfl rfl rfl rfl ?_
         refine t_off rfl rfl rfl rfl rfl rfl rfl ?_
         refine t_off rfl rfl rfl rfl rfl rfl rfl ?_
         refine t_op rfl rfl (PureD.opD (p_pkt rfl rfl rfl (.same _))) ?_
         refine t_op rfl rfl (PureD.opD (p_move rfl rfl)) ?_
         refine t_off rfl rfl rfl rfl rfl rfl rfl ?_
         refine t_off rfl rfl rfl rfl rfl rfl rfl ?_
         refine t_off rfl rfl rfl rfl rfl rfl rfl ?_
         refine t_off rfl rfl rfl rfl rfl rfl rfl ?_
         refine t_op rfl rfl (PureD.opD (p_pkt rfl rfl rfl (.same _))) ?_
         refine t_op rfl rfl (PureD.opD (p_move rfl rfl)) ?_
         refine t_off rfl rfl rfl rfl rfl rfl rfl ?_
         refine t_off rfl rfl rfl rfl rfl rfl rfl ?_
         refine t_off rfl rfl rfl rfl rfl rfl rfl ?_
         refine t_off rfl rfl rfl rfl rfl rfl rfl ?_
         refine t_op rfl rfl (PureD.opD (p_pkt rfl rfl rfl (.same _))) ?_
         refine t_gho (Gho_st (L := [(0, .y p0_0), (185, .b true)]) (H := []) (N := 188) rfl ⟨TLes.same _, TLes.same _, trivial⟩ trivial) ?_
         exact rfl
        ·replace H := ite_else h56 H
         refine chkK H fun h57 H => ?_
         refine (Classical.em ((lrd p0_0 1) < accept6'19.lo_)).elim (fun h58 => ?_) (fun h58 => ?_)
         ·replace H := ite_then h58 H
          have hz := some_elim H
          subst hz
          refine AW2_ghoQ ?_
          refine AW2_draw 17 [17, 18, 19, 20, 21, 22, 23, 24, 25, 26, 27, 28, 29, 30, 31, 32, 33, 34, 35, 36, 37, 38, 39, 40, 41, 42] (fun k => ([.y p0_0, .i (p0_0.length : Int), .b (decide ((p0_0.length : Int) < (4 : Int))), .b (decide ((p0_0.length : Int) < (4 : Int))), .y p0_0, .p (.rptr (bcells p0_0) (1 * 1)), .p (AV.b8 (lrd p0_0 1)), .q 6 (0 + 0), .p (AV.b8 accept6'19.lo_), .b (decide ((lrd p0_0 1) < accept6'19.lo_)), .b (decide ((lrd p0_0 1) < accept6'19.lo_)), .b (decide ((lrd p0_0 1) < accept6'19.lo_)), .p (.tup []), .p (.tup []), .p (.tup []), .p (.tup []), .p (.tup [])] : List TV).getD k TV.any) (fun k => g_utf8_Valid_r26.getD k []) [(0, none), (154, some 11), (156, some 13), (159, some 16)] [] (fun k => g_utf8_Valid_r26c.getD k []) mixed (by kernel_rfl) rfl rfl (a_op (g_x rfl (x_p rfl (p_move rfl rfl) rfl)) (a_op (g_x rfl (x_p rfl (p_lenl rfl Tryd.underlying33 rfl rfl) rfl)) (a_op (g_x rfl (x_p rfl (p_bin rfl rfl rfl rfl) rfl)) (a_op (g_x rfl (x_p rfl (p_move rfl rfl) rfl)) (a_op (g_on rfl rfl rfl (decide_eq_false h56) rfl (x_p rfl (p_move rfl rfl) rfl)) (a_op (g_on rfl rfl rfl (decide_eq_false h56) rfl (x_p rfl (u_ixl rfl rfl Tryd.underlying33 in_5 rfl rfl rfl h57 (lne h57)) rfl)) (a_op (g_on rfl rfl rfl (decide_eq_false h56) rfl (x_p rfl (u_ld rfl rfl Tryd.underlying5 rfl rfl (Sub.map default h57)) rfl)) (a_op (g_on rfl rfl rfl (decide_eq_false h56) rfl (x_p rfl (u_fa rfl rfl Tryd.underlying90 rfl in_5 (Nat.succ_ne_zero _) rfl rfl (ne_of_lt (n := 0) (Nat.lt_of_lt_of_eq (by decide) (Eq.symm (Gutf8_acceptRange.len accept6'19))))) rfl)) (a_op (g_on rfl rfl rfl (decide_eq_false h56) rfl (x_p rfl (u_ld rfl rfl Tryd.underlying5 rfl rfl ((Sub.refl _).trans (Gutf8_acceptRange.sub0 accept6'19))) rfl)) (a_op (g_on rfl rfl rfl (decide_eq_false h56) rfl (x_p rfl (p_u8lt (a := (lrd p0_0 1)) (b := accept6'19.lo_) rfl rfl rfl) rfl)) (a_op (g_x rfl (x_p rfl (p_pkf rfl rfl (decide_eq_false h56) (.same _)) rfl)) (a_op (g_x rfl (x_p rfl (p_move rfl rfl) rfl)) (a_op (g_off rfl rfl rfl rfl rfl (decide_eq_true h58) rfl rfl) (a_op (g_off rfl rfl rfl rfl rfl (decide_eq_true h58) rfl rfl) (a_op (g_off rfl rfl rfl rfl rfl (decide_eq_true h58) rfl rfl) (a_op (g_off rfl rfl rfl rfl rfl (decide_eq_true h58) rfl rfl) (a_op (g_off rfl rfl rfl rfl rfl (decide_eq_true h58) rfl rfl) (a_nil)))))))))))))))))) ?_
          refine t_off rfl rfl rfl rfl (decide_eq_true h58) rfl rfl ?_
          refine t_op rfl rfl (PureD.opD (p_pkt rfl rfl (decide_eq_true h58) (.same _))) ?_
          refine t_op rfl rfl (PureD.opD (p_move rfl rfl)) ?_
          refine t_off rfl rfl rfl rfl rfl rfl rfl ?_
          refine t_off rfl rfl rfl rfl rfl rfl rfl ?_
          refine t_off rfl rfl rfl rfl rfl rfl rfl ?_
          refine t_off rfl rfl rfl rfl rfl rfl rfl ?_
          refine t_op rfl rfl (PureD.opD (p_pkt rfl rfl rfl (.same _))) ?_
          refine t_op rfl rfl (PureD.opD (p_move rfl rfl)) ?_
          refine t_off rfl rfl rfl rfl rfl rfl rfl ?_
          refine t_off rfl rfl rfl rfl rfl rfl rfl ?_
          refine t_off rfl rfl rfl rfl rfl rfl rfl ?_
          refine t_off rfl rfl rfl rfl rfl rfl rfl ?_
          refine t_op rfl rfl (PureD.opD (p_pkt rfl rfl rfl (.same _))) ?_
          refine t_op rfl rfl (PureD.opD (p_move rfl rfl)) ?_
          refine t_off rfl rfl rfl rfl rfl rfl rfl ?_
          refine t_off rfl rfl rfl rfl rfl rfl rfl ?_
          refine t_off rfl rfl rfl rfl rfl rfl rfl ?_
          refine t_off rfl rfl rfl rfl rfl rfl rfl ?_
          refine t_op rfl rfl (PureD.opD (p_pkt rfl rfl rfl (.same _))) ?_
          refine t_op rfl rfl (PureD.opD (p_move rfl rfl)) ?_
          refine t_off rfl rfl rfl rfl rfl rfl rfl ?_
          refine t_off rfl rfl rfl rfl rfl rfl rfl ?_
          refine t_off rfl rfl rfl rfl rfl rfl rfl ?_
          refine t_off rfl rfl rfl rfl rfl rfl rfl ?_
          refine t_op rfl rfl (PureD.opD (p_pkt rfl rfl rfl (.same _))) ?_
          refine t_gho (Gho_st (L := [(0, .y p0_0), (185, .b true)]) (H := []) (N := 188) rfl ⟨TLes.same _, TLes.same _, trivial⟩ trivial) ?_
          exact rfl
         ·replace H := ite_else h58 H
          refine chkK H fun h59 H => ?_
          refine (Classical.em (accept6'19.hi_ < (lrd p0_0 1))).elim (fun h60 => ?_) (fun h60 => ?_)
          ·replace H := ite_then h60 H
           have hz := some_elim H
           subst hz
           refine AW2_ghoQ ?_
           refine AW2_draw 17 [17, 18, 19, 20, 21, 22, 23, 24, 25, 26, 27, 28, 29, 30, 31, 32, 33, 34, 35, 36, 37, 38, 39, 40, 41, 42] (fun k => ([.y p0_0, .i (p0_0.length : Int), .b (decide ((p0_0.length : Int) < (4 : Int))), .b (decide ((p0_0.length : Int) < (4 : Int))), .y p0_0, .p (.rptr (bcells p0_0) (1 * 1)), .p (AV.b8 (lrd p0_0 1)), .q 6 (0 + 0), .p (AV.b8 accept6'19.lo_), .b (decide ((lrd p0_0 1) < accept6'19.lo_)), .b (decide ((lrd p0_0 1) < accept6'19.lo_)), .b (decide ((lrd p0_0 1) < accept6'19.lo_)), .q 6 (0 + 1), .p (AV.b8 accept6'19.hi_), .y p0_0, .p (.rptr (bcells p0_0) (1 * 1)), .p (AV.b8 (lrd p0_0 1))] : List TV).getD k TV.any) (fun k => g_utf8_Valid_r26.getD k []) [(0, none), (154, some 11), (156, some 13), (159, some 16)] [] (fun k => g_utf8_Valid_r26c.getD k []) mixed (by kernel_rfl) rfl rfl (a_op (g_x rfl (x_p rfl (p_move rfl rfl) rfl)) (a_op (g_x rfl (x_p rfl (p_lenl rfl Tryd.underlying33 rfl rfl) rfl)) (a_op (g_x rfl (x_p rfl (p_bin rfl rfl rfl rfl) rfl)) (a_op (g_x rfl (x_p rfl (p_move rfl rfl) rfl)) (a_op (g_on rfl rfl rfl (decide_eq_false h56) rfl (x_p rfl (p_move rfl rfl) rfl)) (a_op (g_on rfl rfl rfl (decide_eq_false h56) rfl (x_p rfl (u_ixl rfl rfl Tryd.underlying33 in_5 rfl rfl rfl h57 (lne h57)) rfl)) (a_op (g_on rfl rfl rfl (decide_eq_false h56) rfl (x_p rfl (u_ld rfl rfl Tryd.underlying5 rfl rfl (Sub.map default h57)) rfl)) (a_op (g_on rfl rfl rfl (decide_eq_false h56) rfl (x_p rfl (u_fa rfl rfl Tryd.underlying90 rfl in_5 (Nat.succ_ne_zero _) rfl rfl (ne_of_lt (n := 0) (Nat.lt_of_lt_of_eq (by decide) (Eq.symm (Gutf8_acceptRange.len accept6'19))))) rfl)) (a_op (g_on rfl rfl rfl (decide_eq_false h56) rfl (x_p rfl (u_ld rfl rfl Tryd.underlying5 rfl rfl ((Sub.refl _).trans (Gutf8_acceptRange.sub0 accept6'19))) rfl)) (a_op (g_on rfl rfl rfl (decide_eq_false h56) rfl (x_p rfl (p_u8lt (a := (lrd p0_0 1)) (b := accept6'19.lo_) rfl rfl rfl) rfl)) (a_op (g_x rfl (x_p rfl (p_pkf rfl rfl (decide_eq_false h56) (.same _)) rfl)) (a_op (g_x rfl (x_p rfl (p_move rfl rfl) rfl)) (a_op (g_on rfl rfl rfl (decide_eq_false h58) rfl (x_p rfl (u_fa rfl rfl Tryd.underlying90 rfl in_5 (Nat.succ_ne_zero _) rfl rfl (ne_of_lt (n := 0) (Nat.lt_of_lt_of_eq (by decide) (Eq.symm (Gutf8_acceptRange.len accept6'19))))) rfl)) (a_op (g_on rfl rfl rfl (decide_eq_false h58) rfl (x_p rfl (u_ld rfl rfl Tryd.underlying5 rfl rfl ((Sub.refl _).trans (Gutf8_acceptRange.sub1 accept6'19))) rfl)) (a_op (g_on rfl rfl rfl (decide_eq_false h58) rfl (x_p rfl (p_move rfl rfl) rfl)) (a_op (g_on rfl rfl rfl (decide_eq_false h58) rfl (x_p rfl (u_ixl rfl rfl Tryd.underlying33 in_5 rfl rfl rfl h59 (lne h59)) rfl)) (a_op (g_on rfl rfl rfl (decide_eq_false h58) rfl (x_p rfl (u_ld rfl rfl Tryd.underlying5 rfl rfl (Sub.map default h59)) rfl)) (a_nil)))))))))))))))))) ?_
           refine t_on rfl rfl rfl rfl (decide_eq_false h58) rfl (PureD.opD (p_u8lt (a := accept6'19.hi_) (b := (lrd p0_0 1)) rfl rfl rfl)) ?_
           refine t_op rfl rfl (PureD.opD (p_pkf rfl rfl (decide_eq_false h58) (.same _))) ?_
           refine t_op rfl rfl (PureD.opD (p_move rfl rfl)) ?_
           refine t_off rfl rfl rfl rfl (decide_eq_true h60) rfl rfl ?_
           refine t_off rfl rfl rfl rfl (decide_eq_true h60) rfl rfl ?_
           refine t_off rfl rfl rfl rfl (decide_eq_true h60) rfl rfl ?_
           refine t_off rfl rfl rfl rfl (decide_eq_true h60) rfl rfl ?_
           refine t_op rfl rfl (PureD.opD (p_pkt rfl rfl (decide_eq_true h60) (.same _))) ?_
           refine t_op rfl rfl (PureD.opD (p_move rfl rfl)) ?_
           refine t_off rfl rfl rfl rfl rfl rfl rfl ?_
           refine t_off rfl rfl rfl rfl rfl rfl rfl ?_
           refine t_off rfl rfl rfl rfl rfl rfl rfl ?_
           refine t_off rfl rfl rfl rfl rfl rfl rfl ?_
           refine t_op rfl rfl (PureD.opD (p_pkt rfl rfl rfl (.same _))) ?_
           refine t_op rfl rfl (PureD.opD (p_move rfl rfl)) ?_
           refine t_off rfl rfl rfl rfl rfl rfl rfl ?_
           refine t_off rfl rfl rfl rfl rfl rfl rfl ?_
           refine t_off rfl rfl rfl rfl rfl rfl rfl ?_
           refine t_off rfl rfl rfl rfl rfl rfl rfl ?_
           refine t_op rfl rfl (PureD.opD (p_pkt rfl rfl rfl (.same _))) ?_
           refine t_op rfl rfl (PureD.opD (p_move rfl rfl)) ?_
           refine t_off rfl rfl rfl rfl rfl rfl rfl ?_
           refine t_off rfl rfl rfl rfl rfl rfl rfl ?_
           refine t_off rfl rfl rfl rfl rfl rfl rfl ?_
           refine t_off rfl rfl rfl rfl rfl rfl rfl ?_
           refine t_op rfl rfl (PureD.opD (p_pkt rfl rfl rfl (.same _))) ?_
           refine t_gho (Gho_st (L := [(0, .y p0_0), (185, .b true)]) (H := []) (N := 188) rfl ⟨TLes.same _, TLes.same _, trivial⟩ trivial) ?_
           exact rfl
          ·replace H := ite_else h60 H
           refine chkK H fun h61 H => ?_
           refine (Classical.em ((lrd p0_0 2) < (128 : UInt8))).elim (fun h62 => ?_) (fun h62 => ?_)
           ·replace H := ite_then h62 H
            have hz := some_elim H
            subst hz
            refine AW2_ghoQ ?_
            refine AW2_draw 17 [17, 18, 19, 20, 21, 22, 23, 24, 25, 26, 27, 28, 29, 30, 31, 32, 33, 34, 35, 36, 37, 38, 39, 40, 41, 42] (fun k => ([.y p0_0, .i (p0_0.length : Int), .b (decide ((p0_0.length : Int) < (4 : Int))), .b (decide ((p0_0.length : Int) < (4 : Int))), .y p0_0, .p (.rptr (bcells p0_0) (1 * 1)), .p (AV.b8 (lrd p0_0 1)), .q 6 (0 + 0), .p (AV.b8 accept6'19.lo_), .b (decide ((lrd p0_0 1) < accept6'19.lo_)), .b (decide ((lrd p0_0 1) < accept6'19.lo_)), .b (decide ((lrd p0_0 1) < accept6'19.lo_)), .q 6 (0 + 1), .p (AV.b8 accept6'19.hi_), .y p0_0, .p (.rptr (bcells p0_0) (1 * 1)), .p (AV.b8 (lrd p0_0 1))] : List TV).getD k TV.any) (fun k => g_utf8_Valid_r26.getD k []) [(0, none), (154, some 11), (156, some 13), (159, some 16)] [] (fun k => g_utf8_Valid_r26c.getD k []) mixed (by kernel_rfl) rfl rfl (a_op (g_x rfl (x_p rfl (p_move rfl rfl) rfl)) (a_op (g_x rfl (x_p rfl (p_lenl rfl Tryd.underlying33 rfl rfl) rfl)) (a_op (g_x rfl (x_p rfl (p_bin rfl rfl rfl rfl) rfl)) (a_op (g_x rfl (x_p rfl (p_move rfl rfl) rfl)) (a_op (g_on rfl rfl rfl (decide_eq_false h56) rfl (x_p rfl (p_move rfl rfl) rfl)) (a_op (g_on rfl rfl rfl (decide_eq_false h56) rfl (x_p rfl (u_ixl rfl rfl Tryd.underlying33 in_5 rfl rfl rfl h57 (lne h57)) rfl)) (a_op (g_on rfl rfl rfl (decide_eq_false h56) rfl (x_p rfl (u_ld rfl rfl Tryd.underlying5 rfl rfl (Sub.map default h57)) rfl)) (a_op (g_on rfl rfl rfl (decide_eq_false h56) rfl (x_p rfl (u_fa rfl rfl Tryd.underlying90 rfl in_5 (Nat.succ_ne_zero _) rfl rfl (ne_of_lt (n := 0) (Nat.lt_of_lt_of_eq (by decide) (Eq.symm (Gutf8_acceptRange.len accept6'19))))) rfl)) (a_op (g_on rfl rfl rfl (decide_eq_false h56) rfl (x_p rfl (u_ld rfl rfl Tryd.underlying5 rfl rfl ((Sub.refl _).trans (Gutf8_acceptRange.sub0 accept6'19))) rfl)) (a_op (g_on rfl rfl rfl (decide_eq_false h56) rfl (x_p rfl (p_u8lt (a := (lrd p0_0 1)) (b := accept6'19.lo_) rfl rfl rfl) rfl)) (a_op (g_x rfl (x_p rfl (p_pkf rfl rfl (decide_eq_false h56) (.same _)) rfl)) (a_op (g_x rfl (x_p rfl (p_move rfl rfl) rfl)) (a_op (g_on rfl rfl rfl (decide_eq_false h58) rfl (x_p rfl (u_fa rfl rfl Tryd.underlying90 rfl in_5 (Nat.succ_ne_zero _) rfl rfl (ne_of_lt (n := 0) (Nat.lt_of_lt_of_eq (by decide) (Eq.symm (Gutf8_acceptRange.len accept6'19))))) rfl)) (a_op (g_on rfl rfl rfl (decide_eq_false h58) rfl (x_p rfl (u_ld rfl rfl Tryd.underlying5 rfl rfl ((Sub.refl _).trans (Gutf8_acceptRange.sub1 accept6'19))) rfl)) (a_op (g_on rfl rfl rfl (decide_eq_false h58) rfl (x_p rfl (p_move rfl rfl) rfl)) (a_op (g_on rfl rfl rfl (decide_eq_false h58) rfl (x_p rfl (u_ixl rfl rfl Tryd.underlying33 in_5 rfl rfl rfl h59 (lne h59)) rfl)) (a_op (g_on rfl rfl rfl (decide_eq_false h58) rfl (x_p rfl (u_ld rfl rfl Tryd.underlying5 rfl rfl (Sub.map default h59)) rfl)) (a_nil)))))))))))))))))) ?_
            refine t_on rfl rfl rfl rfl (decide_eq_false h58) rfl (PureD.opD (p_u8lt (a := accept6'19.hi_) (b := (lrd p0_0 1)) rfl rfl rfl)) ?_
            refine t_op rfl rfl (PureD.opD (p_pkf rfl rfl (decide_eq_false h58) (.same _))) ?_
            refine t_op rfl rfl (PureD.opD (p_move rfl rfl)) ?_
            refine t_on rfl rfl rfl rfl (decide_eq_false h60) rfl (PureD.opD (p_move rfl rfl)) ?_
            refine t_on rfl rfl rfl rfl (decide_eq_false h60) rfl (PureD.opD (u_ixl rfl rfl Tryd.underlying33 in_5 rfl rfl rfl h61 (lne h61))) ?_
            refine t_on rfl rfl rfl rfl (decide_eq_false h60) rfl (PureD.opD (u_ld rfl rfl Tryd.underlying5 rfl rfl (Sub.map default h61))) ?_
            refine t_on rfl rfl rfl rfl (decide_eq_false h60) rfl (PureD.opD (p_u8lt (a := (lrd p0_0 2)) (b := (128 : UInt8)) rfl rfl rfl)) ?_
            refine t_op rfl rfl (PureD.opD (p_pkf rfl rfl (decide_eq_false h60) (.same _))) ?_
            refine t_op rfl rfl (PureD.opD (p_move rfl rfl)) ?_
            refine t_off rfl rfl rfl rfl (decide_eq_true h62) rfl rfl ?_
            refine t_off rfl rfl rfl rfl (decide_eq_true h62) rfl rfl ?_
            refine t_off rfl rfl rfl rfl (decide_eq_true h62) rfl rfl ?_
            refine t_off rfl rfl rfl rfl (decide_eq_true h62) rfl rfl ?_
            refine t_op rfl rfl (PureD.opD (p_pkt rfl rfl (decide_eq_true h62) (.same _))) ?_
            refine t_op rfl rfl (PureD.opD (p_move rfl rfl)) ?_
            refine t_off rfl rfl rfl rfl rfl rfl rfl ?_
            refine t_off rfl rfl rfl rfl rfl rfl rfl ?_
            refine t_off rfl rfl rfl rfl rfl rfl rfl ?_
            refine t_off rfl rfl rfl rfl rfl rfl rfl ?_
            refine t_op rfl rfl (PureD.opD (p_pkt rfl rfl rfl (.same _))) ?_
            refine t_op rfl rfl (PureD.opD (p_move rfl rfl)) ?_
            refine t_off rfl rfl rfl rfl rfl rfl rfl ?_
            refine t_off rfl rfl rfl rfl rfl rfl rfl ?_
            refine t_off rfl rfl rfl rfl rfl rfl rfl ?_
            refine t_off rfl rfl rfl rfl rfl rfl rfl ?_
            refine t_op rfl rfl (PureD.opD (p_pkt rfl rfl rfl (.same _))) ?_
            refine t_gho (Gho_st (L := [(0, .y p0_0), (185, .b true)]) (H := []) (N := 188) rfl ⟨TLes.same _, TLes.same _, trivial⟩ trivial) ?_
            exact rfl
           ·replace H := ite_else h62 H
            refine chkK H fun h63 H => ?_
            refine (Classical.em ((191 : UInt8) < (lrd p0_0 2))).elim (fun h64 => ?_) (fun h64 => ?_)
            ·replace H := ite_then h64 H
             have hz := some_elim H
             subst hz
             refine AW2_ghoQ ?_
             refine AW2_draw 17 [17, 18, 19, 20, 21, 22, 23, 24, 25, 26, 27, 28, 29, 30, 31, 32, 33, 34, 35, 36, 37, 38, 39, 40, 41, 42] (fun k => ([.y p0_0, .i (p0_0.length : Int), .b (decide ((p0_0.length : Int) < (4 : Int))), .b (decide ((p0_0.length : Int) < (4 : Int))), .y p0_0, .p (.rptr (bcells p0_0) (1 * 1)), .p (AV.b8 (lrd p0_0 1)), .q 6 (0 + 0), .p (AV.b8 accept6'19.lo_), .b (decide ((lrd p0_0 1) < accept6'19.lo_)), .b (decide ((lrd p0_0 1) < accept6'19.lo_)), .b (decide ((lrd p0_0 1) < accept6'19.lo_)), .q 6 (0 + 1), .p (AV.b8 accept6'19.hi_), .y p0_0, .p (.rptr (bcells p0_0) (1 * 1)), .p (AV.b8 (lrd p0_0 1))] : List TV).getD k TV.any) (fun k => g_utf8_Valid_r26.getD k []) [(0, none), (154, some 11), (156, some 13), (159, some 16)] [] (fun k => g_utf8_Valid_r26c.getD k []) mixed (by kernel_rfl) rfl rfl (a_op (g_x rfl (x_p rfl (p_move rfl rfl) rfl)) (a_op (g_x rfl (x_p rfl (p_lenl rfl Tryd.underlying33 rfl rfl) rfl)) (a_op (g_x rfl (x_p rfl (p_bin rfl rfl rfl rfl) rfl)) (a_op (g_x rfl (x_p rfl (p_move rfl rfl) rfl)) (a_op (g_on rfl rfl rfl (decide_eq_false h56) rfl (x_p rfl (p_move rfl rfl) rfl)) (a_op (g_on rfl rfl rfl (decide_eq_false h56) rfl (x_p rfl (u_ixl rfl rfl Tryd.underlying33 in_5 rfl rfl rfl h57 (lne h57)) rfl)) (a_op (g_on rfl rfl rfl (decide_eq_false h56) rfl (x_p rfl (u_ld rfl rfl Tryd.underlying5 rfl rfl (Sub.map default h57)) rfl)) (a_op (g_on rfl rfl rfl (decide_eq_false h56) rfl (x_p rfl (u_fa rfl rfl Tryd.underlying90 rfl in_5 (Nat.succ_ne_zero _) rfl rfl (ne_of_lt (n := 0) (Nat.lt_of_lt_of_eq (by decide) (Eq.symm (Gutf8_acceptRange.len accept6'19))))) rfl)) (a_op (g_on rfl rfl rfl (decide_eq_false h56) rfl (x_p rfl (u_ld rfl rfl Tryd.underlying5 rfl rfl ((Sub.refl _).trans (Gutf8_acceptRange.sub0 accept6'19))) rfl)) (a_op (g_on rfl rfl rfl (decide_eq_false h56) rfl (x_p rfl (p_u8lt (a := (lrd p0_0 1)) (b := accept6'19.lo_) rfl rfl rfl) rfl)) (a_op (g_x rfl (x_p rfl (p_pkf rfl rfl (decide_eq_false h56) (.same _)) rfl)) (a_op (g_x rfl (x_p rfl (p_move rfl rfl) rfl)) (a_op (g_on rfl rfl rfl (decide_eq_false h58) rfl (x_p rfl (u_fa rfl rfl Tryd.underlying90 rfl in_5 (Nat.succ_ne_zero _) rfl rfl (ne_of_lt (n := 0) (Nat.lt_of_lt_of_eq (by decide) (Eq.symm (Gutf8_acceptRange.len accept6'19))))) rfl)) (a_op (g_on rfl rfl rfl (decide_eq_false h58) rfl (x_p rfl (u_ld rfl rfl Tryd.underlying5 rfl rfl ((Sub.refl _).trans (Gutf8_acceptRange.sub1 accept6'19))) rfl)) (a_op (g_on rfl rfl rfl (decide_eq_false h58) rfl (x_p rfl (p_move rfl rfl) rfl)) (a_op (g_on rfl rfl rfl (decide_eq_false h58) rfl (x_p rfl (u_ixl rfl rfl Tryd.underlying33 in_5 rfl rfl rfl h59 (lne h59)) rfl)) (a_op (g_on rfl rfl rfl (decide_eq_false h58) rfl (x_p rfl (u_ld rfl rfl Tryd.underlying5 rfl rfl (Sub.map default h59)) rfl)) (a_nil)))))))))))))))))) ?_
             refine t_on rfl rfl rfl rfl (decide_eq_false h58) rfl (PureD.opD (p_u8lt (a := accept6'19.hi_) (b := (lrd p0_0 1)) rfl rfl rfl)) ?_
             refine t_op rfl rfl (PureD.opD (p_pkf rfl rfl (decide_eq_false h58) (.same _))) ?_
             refine t_op rfl rfl (PureD.opD (p_move rfl rfl)) ?_
             refine t_on rfl rfl rfl rfl (decide_eq_false h60) rfl (PureD.opD (p_move rfl rfl)) ?_
             refine t_on rfl rfl rfl rfl (decide_eq_false h60) rfl (PureD.opD (u_ixl rfl rfl Tryd.underlying33 in_5 rfl rfl rfl h61 (lne h61))) ?_
             refine t_on rfl rfl rfl rfl (decide_eq_false h60) rfl (PureD.opD (u_ld rfl rfl Tryd.underlying5 rfl rfl (Sub.map default h61))) ?_
             refine t_on rfl rfl rfl rfl (decide_eq_false h60) rfl (PureD.opD (p_u8lt (a := (lrd p0_0 2)) (b := (128 : UInt8)) rfl rfl rfl)) ?_
             refine t_op rfl rfl (PureD.opD (p_pkf rfl rfl (decide_eq_false h60) (.same _))) ?_
             refine t_op rfl rfl (PureD.opD (p_move rfl rfl)) ?_
             refine t_on rfl rfl rfl rfl (decide_eq_false h62) rfl (PureD.opD (p_move rfl rfl)) ?_
             refine t_on rfl rfl rfl rfl (decide_eq_false h62) rfl (PureD.opD (u_ixl rfl rfl Tryd.underlying33 in_5 rfl rfl rfl h63 (lne h63))) ?_
             refine t_on rfl rfl rfl rfl (decide_eq_false h62) rfl (PureD.opD (u_ld rfl rfl Tryd.underlying5 rfl rfl (Sub.map default h63))) ?_
             refine t_on rfl rfl rfl rfl (decide_eq_false h62) rfl (PureD.opD (p_u8lt (a := (191 : UInt8)) (b := (lrd p0_0 2)) rfl rfl rfl)) ?_
             refine t_op rfl rfl (PureD.opD (p_pkf rfl rfl (decide_eq_false h62) (.same _))) ?_
             refine t_op rfl rfl (PureD.opD (p_move rfl rfl)) ?_
             refine t_off rfl rfl rfl rfl (decide_eq_true h64) rfl rfl ?_
             refine t_off rfl rfl rfl rfl (decide_eq_true h64) rfl rfl ?_
             refine t_off rfl rfl rfl rfl (decide_eq_true h64) rfl rfl ?_
             refine t_off rfl rfl rfl rfl (decide_eq_true h64) rfl rfl ?_
             refine t_op rfl rfl (PureD.opD (p_pkt rfl rfl (decide_eq_true h64) (.same _))) ?_
             refine t_op rfl rfl (PureD.opD (p_move rfl rfl)) ?_
             refine t_off rfl rfl rfl rfl rfl rfl rfl ?_
             refine t_off rfl rfl rfl rfl rfl rfl rfl ?_
             refine t_off rfl rfl rfl rfl rfl rfl rfl ?_
             refine t_off rfl rfl rfl rfl rfl rfl rfl ?_
             refine t_op rfl rfl (PureD.opD (p_pkt rfl rfl rfl (.same _))) ?_
             refine t_gho (Gho_st (L := [(0, .y p0_0), (185, .b true)]) (H := []) (N := 188) rfl ⟨TLes.same _, TLes.same _, trivial⟩ trivial) ?_
             exact rfl
            ·replace H := ite_else h64 H
             refine chkK H fun h65 H => ?_
             refine (Classical.em ((lrd p0_0 3) < (128 : UInt8))).elim (fun h66 => ?_) (fun h66 => ?_)
             ·replace H := ite_then h66 H
              have hz := some_elim H
              subst hz
              refine AW2_ghoQ ?_
              refine AW2_draw 17 [17, 18, 19, 20, 21, 22, 23, 24, 25, 26, 27, 28, 29, 30, 31, 32, 33, 34, 35, 36, 37, 38, 39, 40, 41, 42] (fun k => ([.y p0_0, .i (p0_0.length : Int), .b (decide ((p0_0.length : Int) < (4 : Int))), .b (decide ((p0_0.length : Int) < (4 : Int))), .y p0_0, .p (.rptr (bcells p0_0) (1 * 1)), .p (AV.b8 (lrd p0_0 1)), .q 6 (0 + 0), .p (AV.b8 accept6'19.lo_), .b (decide ((lrd p0_0 1) < accept6'19.lo_)), .b (decide ((lrd p0_0 1) < accept6'19.lo_)), .b (decide ((lrd p0_0 1) < accept6'19.lo_)), .q 6 (0 + 1), .p (AV.b8 accept6'19.hi_), .y p0_0, .p (.rptr (bcells p0_0) (1 * 1)), .p (AV.b8 (lrd p0_0 1))] : List TV).getD k TV.any) (fun k => g_utf8_Valid_r26.getD k []) [(0, none), (154, some 11), (156, some 13), (159, some 16)] [] (fun k => g_utf8_Valid_r26c.getD k []) mixed (by kernel_rfl) rfl rfl (a_op (g_x rfl (x_p rfl (p_move rfl rfl) rfl)) (a_op (g_x rfl (x_p rfl (p_lenl rfl Tryd.underlying33 rfl rfl) rfl)) (a_op (g_x rfl (x_p rfl (p_bin rfl rfl rfl rfl) rfl)) (a_op (g_x rfl (x_p rfl (p_move rfl rfl) rfl)) (a_op (g_on rfl rfl rfl (decide_eq_false h56) rfl (x_p rfl (p_move rfl rfl) rfl)) (a_op (g_on rfl rfl rfl (decide_eq_false h56) rfl (x_p rfl (u_ixl rfl rfl Tryd.underlying33 in_5 rfl rfl rfl h57 (lne h57)) rfl)) (a_op (g_on rfl rfl rfl (decide_eq_false h56) rfl (x_p rfl (u_ld rfl rfl Tryd.underlying5 rfl rfl (Sub.map default h57)) rfl)) (a_op (g_on rfl rfl rfl (decide_eq_false h56) rfl (x_p rfl (u_fa rfl rfl Tryd.underlying90 rfl in_5 (Nat.succ_ne_zero _) rfl rfl (ne_of_lt (n := 0) (Nat.lt_of_lt_of_eq (by decide) (Eq.symm (Gutf8_acceptRange.len accept6'19))))) rfl)) (a_op (g_on rfl rfl rfl (decide_eq_false h56) rfl (x_p rfl (u_ld rfl rfl Tryd.underlying5 rfl rfl ((Sub.refl _).trans (Gutf8_acceptRange.sub0 accept6'19))) rfl)) (a_op (g_on rfl rfl rfl (decide_eq_false h56) rfl (x_p rfl (p_u8lt (a := (lrd p0_0 1)) (b := accept6'19.lo_) rfl rfl rfl) rfl)) (a_op (g_x rfl (x_p rfl (p_pkf rfl rfl (decide_eq_false h56) (.same _)) rfl)) (a_op (g_x rfl (x_p rfl (p_move rfl rfl) rfl)) (a_op (g_on rfl rfl rfl (decide_eq_false h58) rfl (x_p rfl (u_fa rfl rfl Tryd.underlying90 rfl in_5 (Nat.succ_ne_zero _) rfl rfl (ne_of_lt (n := 0) (Nat.lt_of_lt_of_eq (by decide) (Eq.symm (Gutf8_acceptRange.len accept6'19))))) rfl)) (a_op (g_on rfl rfl rfl (decide_eq_false h58) rfl (x_p rfl (u_ld rfl rfl Tryd.underlying5 rfl rfl ((Sub.refl _).trans (Gutf8_acceptRange.sub1 accept6'19))) rfl)) (a_op (g_on rfl rfl rfl (decide_eq_false h58) rfl (x_p rfl (p_move rfl rfl) rfl)) (a_op (g_on rfl rfl rfl (decide_eq_false h58) rfl (x_p rfl (u_ixl rfl rfl Tryd.underlying33 in_5 rfl rfl rfl h59 (lne h59)) rfl)) (a_op (g_on rfl rfl rfl (decide_eq_false h58) rfl (x_p rfl (u_ld rfl rfl Tryd.underlying5 rfl rfl (Sub.map default h59)) rfl)) (a_nil)))))))))))))))))) ?_
              refine t_on rfl rfl rfl rfl (decide_eq_false h58) rfl (PureD.opD (p_u8lt (a := accept6'19.hi_) (b := (lrd p0_0 1)) rfl rfl rfl)) ?_
              refine t_op rfl rfl (PureD.opD (p_pkf rfl rfl (decide_eq_false h58) (.same _))) ?_
              refine t_op rfl rfl (PureD.opD (p_move rfl rfl)) ?_
              refine t_on rfl rfl rfl rfl (decide_eq_false h60) rfl (PureD.opD (p_move rfl rfl)) ?_
              refine t_on rfl rfl rfl rfl (decide_eq_false h60) rfl (PureD.opD (u_ixl rfl rfl Tryd.underlying33 in_5 rfl rfl rfl h61 (lne h61))) ?_
              refine t_on rfl rfl rfl rfl (decide_eq_false h60) rfl (PureD.opD (u_ld rfl rfl Tryd.underlying5 rfl rfl (Sub.map default h61))) ?_
              refine t_on rfl rfl rfl rfl (decide_eq_false h60) rfl (PureD.opD (p_u8lt (a := (lrd p0_0 2)) (b := (128 : UInt8)) rfl rfl rfl)) ?_
              refine t_op rfl rfl (PureD.opD (p_pkf rfl rfl (decide_eq_false h60) (.same _))) ?_
              refine t_op rfl rfl (PureD.opD (p_move rfl rfl)) ?_
              refine t_on rfl rfl rfl rfl (decide_eq_false h62) rfl (PureD.opD (p_move rfl rfl)) ?_
              refine t_on rfl rfl rfl rfl (decide_eq_false h62) rfl (PureD.opD (u_ixl rfl rfl Tryd.underlying33 in_5 rfl rfl rfl h63 (lne h63))) ?_
              refine t_on rfl rfl rfl rfl (decide_eq_false h62) rfl (PureD.opD (u_ld rfl rfl Tryd.underlying5 rfl rfl (Sub.map default h63))) ?_
              refine t_on rfl rfl rfl rfl (decide_eq_false h62) rfl (PureD.opD (p_u8lt (a := (191 : UInt8)) (b := (lrd p0_0 2)) rfl rfl rfl)) ?_
              refine t_op rfl rfl (PureD.opD (p_pkf rfl rfl (decide_eq_false h62) (.same _))) ?_
              refine t_op rfl rfl (PureD.opD (p_move rfl rfl)) ?_
              refine t_on rfl rfl rfl rfl (decide_eq_false h64) rfl (PureD.opD (p_move rfl rfl)) ?_
              refine t_on rfl rfl rfl rfl (decide_eq_false h64) rfl (PureD.opD (u_ixl rfl rfl Tryd.underlying33 in_5 rfl rfl rfl h65 (lne h65))) ?_
              refine t_on rfl rfl rfl rfl (decide_eq_false h64) rfl (PureD.opD (u_ld rfl rfl Tryd.underlying5 rfl rfl (Sub.map default h65))) ?_
              refine t_on rfl rfl rfl rfl (decide_eq_false h64) rfl (PureD.opD (p_u8lt (a := (lrd p0_0 3)) (b := (128 : UInt8)) rfl rfl rfl)) ?_
              refine t_op rfl rfl (PureD.opD (p_pkf rfl rfl (decide_eq_false h64) (.same _))) ?_
              refine t_op rfl rfl (PureD.opD (p_move rfl rfl)) ?_
              refine t_off rfl rfl rfl rfl (decide_eq_true h66) rfl rfl ?_
              refine t_off rfl rfl rfl rfl (decide_eq_true h66) rfl rfl ?_
              refine t_off rfl rfl rfl rfl (decide_eq_true h66) rfl rfl ?_
              refine t_off rfl rfl rfl rfl (decide_eq_true h66) rfl rfl ?_
              refine t_op rfl rfl (PureD.opD (p_pkt rfl rfl (decide_eq_true h66) (.same _))) ?_
              refine t_gho (Gho_st (L := [(0, .y p0_0), (185, .b true)]) (H := []) (N := 188) rfl ⟨TLes.same _, TLes.same _, trivial⟩ trivial) ?_
              exact rfl
             ·replace H := ite_else h66 H
              refine chkK H fun h67 H => ?_
              have hz := some_elim H
              subst hz
              refine AW2_ghoQ ?_
              refine AW2_draw 17 [17, 18, 19, 20, 21, 22, 23, 24, 25, 26, 27, 28, 29, 30, 31, 32, 33, 34, 35, 36, 37, 38, 39, 40, 41, 42] (fun k => ([.y p0_0, .i (p0_0.length : Int), .b (decide ((p0_0.length : Int) < (4 : Int))), .b (decide ((p0_0.length : Int) < (4 : Int))), .y p0_0, .p (.rptr (bcells p0_0) (1 * 1)), .p (AV.b8 (lrd p0_0 1)), .q 6 (0 + 0), .p (AV.b8 accept6'19.lo_), .b (decide ((lrd p0_0 1) < accept6'19.lo_)), .b (decide ((lrd p0_0 1) < accept6'19.lo_)), .b (decide ((lrd p0_0 1) < accept6'19.lo_)), .q 6 (0 + 1), .p (AV.b8 accept6'19.hi_), .y p0_0, .p (.rptr (bcells p0_0) (1 * 1)), .p (AV.b8 (lrd p0_0 1))] : List TV).getD k TV.any) (fun k => g_utf8_Valid_r26.getD k []) [(0, none), (154, some 11), (156, some 13), (159, some 16)] [] (fun k => g_utf8_Valid_r26c.getD k []) mixed (by kernel_rfl) rfl rfl (a_op (g_x rfl (x_p rfl (p_move rfl rfl) rfl)) (a_op (g_x rfl (x_p rfl (p_lenl rfl Tryd.underlying33 rfl rfl) rfl)) (a_op (g_x rfl (x_p rfl (p_bin rfl rfl rfl rfl) rfl)) (a_op (g_x rfl (x_p rfl (p_move rfl rfl) rfl)) (a_op (g_on rfl rfl rfl (decide_eq_false h56) rfl (x_p rfl (p_move rfl rfl) rfl)) (a_op (g_on rfl rfl rfl (decide_eq_false h56) rfl (x_p rfl (u_ixl rfl rfl Tryd.underlying33 in_5 rfl rfl rfl h57 (lne h57)) rfl)) (a_op (g_on rfl rfl rfl (decide_eq_false h56) rfl (x_p rfl (u_ld rfl rfl Tryd.underlying5 rfl rfl (Sub.map default h57)) rfl)) (a_op (g_on rfl rfl rfl (decide_eq_false h56) rfl (x_p rfl (u_fa rfl rfl Tryd.underlying90 rfl in_5 (Nat.succ_ne_zero _) rfl rfl (ne_of_lt (n := 0) (Nat.lt_of_lt_of_eq (by decide) (Eq.symm (Gutf8_acceptRange.len accept6'19))))) rfl)) (a_op (g_on rfl rfl rfl (decide_eq_false h56) rfl (x_p rfl (u_ld rfl rfl Tryd.underlying5 rfl rfl ((Sub.refl _).trans (Gutf8_acceptRange.sub0 accept6'19))) rfl)) (a_op (g_on rfl rfl rfl (decide_eq_false h56) rfl (x_p rfl (p_u8lt (a := (lrd p0_0 1)) (b := accept6'19.lo_) rfl rfl rfl) rfl)) (a_op (g_x rfl (x_p rfl (p_pkf rfl rfl (decide_eq_false h56) (.same _)) rfl)) (a_op (g_x rfl (x_p rfl (p_move rfl rfl) rfl)) (a_op (g_on rfl rfl rfl (decide_eq_false h58) rfl (x_p rfl (u_fa rfl rfl Tryd.underlying90 rfl in_5 (Nat.succ_ne_zero _) rfl rfl (ne_of_lt (n := 0) (Nat.lt_of_lt_of_eq (by decide) (Eq.symm (Gutf8_acceptRange.len accept6'19))))) rfl)) (a_op (g_on rfl rfl rfl (decide_eq_false h58) rfl (x_p rfl (u_ld rfl rfl Tryd.underlying5 rfl rfl ((Sub.refl _).trans (Gutf8_acceptRange.sub1 accept6'19))) rfl)) (a_op (g_on rfl rfl rfl (decide_eq_false h58) rfl (x_p rfl (p_move rfl rfl) rfl)) (a_op (g_on rfl rfl rfl (decide_eq_false h58) rfl (x_p rfl (u_ixl rfl rfl Tryd.underlying33 in_5 rfl rfl rfl h59 (lne h59)) rfl)) (a_op (g_on rfl rfl rfl (decide_eq_false h58) rfl (x_p rfl (u_ld rfl rfl Tryd.underlying5 rfl rfl (Sub.map default h59)) rfl)) (a_nil)))))))))))))))))) ?_
              refine t_on rfl rfl rfl rfl (decide_eq_false h58) rfl (PureD.opD (p_u8lt (a := accept6'19.hi_) (b := (lrd p0_0 1)) rfl rfl rfl)) ?_
              refine t_op rfl rfl (PureD.opD (p_pkf rfl rfl (decide_eq_false h58) (.same _))) ?_
              refine t_op rfl rfl (PureD.opD (p_move rfl rfl)) ?_
              refine t_on rfl rfl rfl rfl (decide_eq_false h60) rfl (PureD.opD (p_move rfl rfl)) ?_
              refine t_on rfl rfl rfl rfl (decide_eq_false h60) rfl (PureD.opD (u_ixl rfl rfl Tryd.underlying33 in_5 rfl rfl rfl h61 (lne h61))) ?_
              refine t_on rfl rfl rfl rfl (decide_eq_false h60) rfl (PureD.opD (u_ld rfl rfl Tryd.underlying5 rfl rfl (Sub.map default h61))) ?_
              refine t_on rfl rfl rfl rfl (decide_eq_false h60) rfl (PureD.opD (p_u8lt (a := (lrd p0_0 2)) (b := (128 : UInt8)) rfl rfl rfl)) ?_
              refine t_op rfl rfl (PureD.opD (p_pkf rfl rfl (decide_eq_false h60) (.same _))) ?_
              refine t_op rfl rfl (PureD.opD (p_move rfl rfl)) ?_
              refine t_on rfl rfl rfl rfl (decide_eq_false h62) rfl (PureD.opD (p_move rfl rfl)) ?_
              refine t_on rfl rfl rfl rfl (decide_eq_false h62) rfl (PureD.opD (u_ixl rfl rfl Tryd.underlying33 in_5 rfl rfl rfl h63 (lne h63))) ?_
              refine t_on rfl rfl rfl rfl (decide_eq_false h62) rfl (PureD.opD (u_ld rfl rfl Tryd.underlying5 rfl rfl (Sub.map default h63))) ?_
              refine t_on rfl rfl rfl rfl (decide_eq_false h62) rfl (PureD.opD (p_u8lt (a := (191 : UInt8)) (b := (lrd p0_0 2)) rfl rfl rfl)) ?_
              refine t_op rfl rfl (PureD.opD (p_pkf rfl rfl (decide_eq_false h62) (.same _))) ?_
              refine t_op rfl rfl (PureD.opD (p_move rfl rfl)) ?_
              refine t_on rfl rfl rfl rfl (decide_eq_false h64) rfl (PureD.opD (p_move rfl rfl)) ?_
              refine t_on rfl rfl rfl rfl (decide_eq_false h64) rfl (PureD.opD (u_ixl rfl rfl Tryd.underlying33 in_5 rfl rfl rfl h65 (lne h65))) ?_
              refine t_on rfl rfl rfl rfl (decide_eq_false h64) rfl (PureD.opD (u_ld rfl rfl Tryd.underlying5 rfl rfl (Sub.map default h65))) ?_
              refine t_on rfl rfl rfl rfl (decide_eq_false h64) rfl (PureD.opD (p_u8lt (a := (lrd p0_0 3)) (b := (128 : UInt8)) rfl rfl rfl)) ?_
              refine t_op rfl rfl (PureD.opD (p_pkf rfl rfl (decide_eq_false h64) (.same _))) ?_
              refine t_op rfl rfl (PureD.opD (p_move rfl rfl)) ?_
              refine t_on rfl rfl rfl rfl (decide_eq_false h66) rfl (PureD.opD (p_move rfl rfl)) ?_
              refine t_on rfl rfl rfl rfl (decide_eq_false h66) rfl (PureD.opD (u_ixl rfl rfl Tryd.underlying33 in_5 rfl rfl rfl h67 (lne h67))) ?_
              refine t_on rfl rfl rfl rfl (decide_eq_false h66) rfl (PureD.opD (u_ld rfl rfl Tryd.underlying5 rfl rfl (Sub.map default h67))) ?_
              refine t_on rfl rfl rfl rfl (decide_eq_false h66) rfl (PureD.opD (p_u8lt (a := (191 : UInt8)) (b := (lrd p0_0 3)) rfl rfl rfl)) ?_
              refine t_op rfl rfl (PureD.opD (p_pkf rfl rfl (decide_eq_false h66) (.same _))) ?_
              refine t_gho (Gho_st (L := [(0, .y p0_0), (185, .b (decide ((191 : UInt8) < (lrd p0_0 3))))]) (H := []) (N := 188) rfl ⟨TLes.same _, TLes.same _, trivial⟩ trivial) ?_
              exact rfl
       ·refine AW2_cond rfl (fun h69 => ?_) (fun h69 => ?_)
        ·replace H := ite_then h69 H
         refine sg [0] rfl ?_
         refine rp rfl rfl (p_asg rfl rfl) ?_
         refine rz [(2, .b false)] [] rfl rfl rfl ?_
         refine AW2_ret ?_
         have hz := some_elim H
         subst hz
         exact ⟨rfl, ⟨res_tmp (.same _), trivial⟩, trivial⟩
        ·replace H := ite_else (ne_true h69) H
         refine as2 [(0, .y p0_0)] [] rfl rfl rfl ?_
         refine AW2_skip ?_
         refine AW2_reg [0, 1, 2] rfl ?_
         refine rp rfl rfl (p_move rfl rfl) ?_
         refine chkK H fun h70 H => ?_
         refine rp rfl rfl (u_cutl (g := (fun l => bcells l)) (a := (4 : Int)) (b := (p0_0.length : Int)) rfl rfl Tryd.underlying33 in_5 rfl (bT_i (show 0 ≤ (4 : Int) ∧ (4 : Int) ≤ (p0_0.length : Int) ∧ (p0_0.length : Int) ≤ (p0_0.length : Int) from ⟨h70.1, h70.2, Int.le_refl _⟩).1 rfl) (bT_len _) (.inl rfl) (show 0 ≤ (4 : Int) ∧ (4 : Int) ≤ (p0_0.length : Int) ∧ (p0_0.length : Int) ≤ (p0_0.length : Int) from ⟨h70.1, h70.2, Int.le_refl _⟩) (g_bytes)) ?_
         refine rp rfl rfl (p_asg rfl rfl) ?_
         refine rz [(0, .y (cut p0_0 (4 : Int) (p0_0.length : Int)))] [] rfl rfl rfl ?_
         have hz := some_elim H
         subst hz
         exact ⟨rfl, rfl⟩
      ·replace H := ite_else h55 H
       refine sg [0] rfl ?_
       refine rp rfl rfl (p_asg rfl rfl) ?_
       refine rz [(2, .b false)] [] rfl rfl rfl ?_
       refine AW2_ret ?_
       have hz := some_elim H
       subst hz
       exact ⟨rfl, ⟨res_tmp (.same _), trivial⟩, trivial⟩
  ·replace H := ite_else h2 H
   refine as2 [] [] rfl rfl rfl ?_
   refine AW2_exit ?_
   refine thenQ2_exit ?_
   have hz := some_elim H
   subst hz
   exact ⟨rfl, rfl⟩
 ·rcases o'26 with y'27 | y'28
  ·obtain ⟨rfl, hs⟩ := hs
   refine ⟨by simp, ?_⟩
   have hz := some_elim H
   subst hz
   exact ⟨hs.1, hs.2⟩
  ·obtain ⟨rfl, rfl⟩ := hs
   refine ⟨by simp, ?_⟩
   refine blockQ2_exit ?_
   refine sg [0] rfl ?_
   refine rp rfl rfl (p_asg rfl rfl) ?_
   refine rz [(2, .b true)] [] rfl rfl rfl ?_
   refine AW2_ret ?_
   have hz := some_elim H
   subst hz
   exact ⟨⟨res_tmp (.same _), trivial⟩, trivial⟩

/-! math.Signbit -/
noncomputable def g_math_Signbit (x0 : F64) : Option (Bool) :=
  some (decide (w64 (x0.toNat : Int) < (0 : Int)))
set_option maxHeartbeats 4000000 in
set_option maxRecDepth 100000 in
theorem g_math_Signbit_ac {x0 : F64} {r : Bool} (H : g_math_Signbit x0 = some r) : ACp Tryd.prog 39 [(AV.f64 x0)] (AV.bool r) := by
 refine ACp_of (AC2_of_body (vs := [.b r]) Tryd.func39 rfl rfl (Nat.le_of_ble_eq_true rfl) rfl ?_) (fun _ => .same _)
 unfold g_math_Signbit at H
 refine as2 [(0, .p (AV.f64 x0))] [] rfl rfl rfl ?_
 refine sg [0] rfl ?_
 refine rp rfl rfl (p_asg rfl rfl) ?_
 refine rz [(0, .p (AV.f64 x0))] [] rfl rfl rfl ?_
 refine sg [0, 1, 2, 3, 4] rfl ?_
 refine rp rfl rfl (p_move rfl rfl) ?_
 refine rp rfl rfl (p_tobits (a := x0) rfl rfl rfl Tryd.func65 rfl rfl (by kernel_rfl) (by kernel_rfl) rfl) ?_
 refine rp rfl rfl (p_u64_i (a := x0) rfl Tryd.underlying22 Tryd.underlying2 rfl) ?_
 refine rp rfl rfl (p_bin rfl rfl rfl rfl) ?_
 refine rp rfl rfl (p_asg rfl rfl) ?_
 refine rz [(2, .b (decide (w64 (x0.toNat : Int) < (0 : Int))))] [] rfl rfl rfl ?_
 refine AW2_ret ?_
 have hz := some_elim H
 subst hz
 exact ⟨⟨res_tmp (.same _), trivial⟩, trivial⟩

/-! utf8.word[string] -/
def g_utf8_word_string_r1 : List (List (Nat × Option Nat)) := [[(0, none)], [(3, some 0)], [(4, some 1)], [(0, none)], [(6, some 3)], [(7, some 4)], [(8, some 5)], [(5, some 2), (9, some 6)], [(0, none)], [(11, some 8)], [(12, some 9)], [(13, some 10)], [(10, some 7), (14, some 11)], [(0, none)], [(16, some 13)], [(17, some 14)], [(18, some 15)]]
def g_utf8_word_string_r1c : List (List Nat) := [[], [0], [0, 1], [], [3], [3, 4], [3, 4, 5], [0, 1, 2, 3, 4, 5, 6], [], [8], [8, 9], [8, 9, 10], [0, 1, 2, 3, 4, 5, 6, 7, 8, 9, 10, 11], [], [13], [13, 14], [13, 14, 15], [0, 1, 2, 3, 4, 5, 6, 7, 8, 9, 10, 11, 12, 13, 14, 15, 16], [0, 1, 2, 3, 4, 5, 6, 7, 8, 9, 10, 11, 12, 13, 14, 15, 16, 17]]
def g_utf8_word_string_r2 : List (List (Nat × Option Nat)) := [[(0, none)], [(21, some 0)], [(22, some 1)], [(0, none)], [(24, some 3)], [(25, some 4)], [(26, some 5)], [(23, some 2), (27, some 6)], [(0, none)], [(29, some 8)], [(30, some 9)], [(31, some 10)], [(28, some 7), (32, some 11)], [(0, none)], [(34, some 13)], [(35, some 14)], [(36, some 15)], [(33, some 12), (37, some 16)], [(0, none)], [(39, some 18)], [(40, some 19)], [(41, some 20)], [(38, some 17), (42, some 21)], [(0, none)], [(44, some 23)], [(45, some 24)], [(46, some 25)], [(43, some 22), (47, some 26)], [(0, none)], [(49, some 28)], [(50, some 29)], [(51, some 30)], [(48, some 27), (52, some 31)], [(0, none)], [(54, some 33)], [(55, some 34)], [(56, some 35)]]
def g_utf8_word_string_r2c : List (List Nat) := [[], [0], [0, 1], [], [3], [3, 4], [3, 4, 5], [0, 1, 2, 3, 4, 5, 6], [], [8], [8, 9], [8, 9, 10], [0, 1, 2, 3, 4, 5, 6, 7, 8, 9, 10, 11], [], [13], [13, 14], [13, 14, 15], [0, 1, 2, 3, 4, 5, 6, 7, 8, 9, 10, 11, 12, 13, 14, 15, 16], [], [18], [18, 19], [18, 19, 20], [0, 1, 2, 3, 4, 5, 6, 7, 8, 9, 10, 11, 12, 13, 14, 15, 16, 17, 18, 19, 20, 21], [], [23], [23, 24], [23, 24, 25], [0, 1, 2, 3, 4, 5, 6, 7, 8, 9, 10, 11, 12, 13, 14, 15, 16, 17, 18, 19, 20, 21, 22, 23, 24, 25, 26], [], [28], [28, 29], [28, 29, 30], [0, 1, 2, 3, 4, 5, 6, 7, 8, 9, 10, 11, 12, 13, 14, 15, 16, 17, 18, 19, 20, 21, 22, 23, 24, 25, 26, 27, 28, 29, 30, 31], [], [33], [33, 34], [33, 34, 35], [0, 1, 2, 3, 4, 5, 6, 7, 8, 9, 10, 11, 12, 13, 14, 15, 16, 17, 18, 19, 20, 21, 22, 23, 24, 25, 26, 27, 28, 29, 30, 31, 32, 33, 34, 35, 36], [0, 1, 2, 3, 4, 5, 6, 7, 8, 9, 10, 11, 12, 13, 14, 15, 16, 17, 18, 19, 20, 21, 22, 23, 24, 25, 26, 27, 28, 29, 30, 31, 32, 33, 34, 35, 36, 37]]
noncomputable def g_utf8_word_string (s0 : List UInt8) : Option (UInt64) :=
  (if false = true then if 0 < s0.length then if 1 < s0.length then if 2 < s0.length then if 3 < s0.length then letO (((((lrd s0 0).toUInt64) ||| (shl_u64 ((lrd s0 1).toUInt64) 8)) ||| (shl_u64 ((lrd s0 2).toUInt64) 16)) ||| (shl_u64 ((lrd s0 3).toUInt64) 24)) fun t2'1 => some t2'1 else none else none else none else none else if 0 < s0.length then if 1 < s0.length then if 2 < s0.length then if 3 < s0.length then if 4 < s0.length then if 5 < s0.length then if 6 < s0.length then if 7 < s0.length then letO (((((((((lrd s0 0).toUInt64) ||| (shl_u64 ((lrd s0 1).toUInt64) 8)) ||| (shl_u64 ((lrd s0 2).toUInt64) 16)) ||| (shl_u64 ((lrd s0 3).toUInt64) 24)) ||| (shl_u64 ((lrd s0 4).toUInt64) 32)) ||| (shl_u64 ((lrd s0 5).toUInt64) 40)) ||| (shl_u64 ((lrd s0 6).toUInt64) 48)) ||| (shl_u64 ((lrd s0 7).toUInt64) 56)) fun t2'2 => some t2'2 else none else none else none else none else none else none else none else none)
set_option maxHeartbeats 4000000 in
set_option maxRecDepth 100000 in
theorem g_utf8_word_string_ac {s0 : List UInt8} {r : UInt64} (H : g_utf8_word_string s0 = some r) : ACp Tryd.prog 66 [(AV.txt s0)] (AV.u64 r) := by
 refine ACp_of (AC2_of_body (vs := [.p (AV.u64 r)]) Tryd.func66 rfl rfl (Nat.le_of_ble_eq_true rfl) rfl ?_) (fun _ => .same _)
 unfold g_utf8_word_string at H
 refine as2 [(0, .t s0)] [] rfl rfl rfl ?_
 refine sg [0] rfl ?_
 refine rp rfl rfl (p_asg rfl rfl) ?_
 refine rz [(0, .t s0)] [] rfl rfl rfl ?_
 refine AW2_seq ?_
 refine AW2_cond rfl (fun h1 => ?_) (fun h1 => ?_)
 ·replace H := ite_then h1 H
  refine AW2_seq ?_
  refine chkK H fun h2 H => ?_
  refine chkK H fun h3 H => ?_
  refine chkK H fun h4 H => ?_
  refine chkK H fun h5 H => ?_
  refine AW2_ghoQ ?_
  refine AW2_draw 17 [17, 18] (fun k => ([.t s0, .p (AV.b8 (lrd s0 0)), .p (AV.u64 ((lrd s0 0).toUInt64)), .t s0, .p (AV.b8 (lrd s0 1)), .p (AV.u64 ((lrd s0 1).toUInt64)), .p (AV.u64 (shl_u64 ((lrd s0 1).toUInt64) 8)), .p (AV.u64 (((lrd s0 0).toUInt64) ||| (shl_u64 ((lrd s0 1).toUInt64) 8))), .t s0, .p (AV.b8 (lrd s0 2)), .p (AV.u64 ((lrd s0 2).toUInt64)), .p (AV.u64 (shl_u64 ((lrd s0 2).toUInt64) 16)), .p (AV.u64 ((((lrd s0 0).toUInt64) ||| (shl_u64 ((lrd s0 1).toUInt64) 8)) ||| (shl_u64 ((lrd s0 2).toUInt64) 16))), .t s0, .p (AV.b8 (lrd s0 3)), .p (AV.u64 ((lrd s0 3).toUInt64)), .p (AV.u64 (shl_u64 ((lrd s0 3).toUInt64) 24))] : List TV).getD k TV.any) (fun k => g_utf8_word_string_r1.getD k []) [(15, some 12), (19, some 16)] [] (fun k => g_utf8_word_string_r1c.getD k []) mixed (by kernel_rfl) rfl rfl (a_op (g_x rfl (x_p rfl (p_move rfl rfl) rfl)) (a_op (g_x rfl (x_p rfl (p_ixt rfl Tryd.underlying9 rfl rfl rfl (lrd_get h2)) rfl)) (a_op (g_x rfl (x_p rfl (p_u8_u64 (a := (lrd s0 0)) rfl Tryd.underlying5 Tryd.underlying12 rfl) rfl)) (a_op (g_x rfl (x_p rfl (p_move rfl rfl) rfl)) (a_op (g_x rfl (x_p rfl (p_ixt rfl Tryd.underlying9 rfl rfl rfl (lrd_get h3)) rfl)) (a_op (g_x rfl (x_p rfl (p_u8_u64 (a := (lrd s0 1)) rfl Tryd.underlying5 Tryd.underlying12 rfl) rfl)) (a_op (g_x rfl (x_p rfl (p_u64shl (n := 8) rfl rfl rfl rfl) rfl)) (a_op (g_x rfl (x_p rfl (p_u64or (a := (lrd s0 0).toUInt64) (b := shl_u64 ((lrd s0 1).toUInt64) 8) rfl rfl rfl) rfl)) (a_op (g_x rfl (x_p rfl (p_move rfl rfl) rfl)) (a_op (g_x rfl (x_p rfl (p_ixt rfl Tryd.underlying9 rfl rfl rfl (lrd_get h4)) rfl)) (a_op (g_x rfl (x_p rfl (p_u8_u64 (a := (lrd s0 2)) rfl Tryd.underlying5 Tryd.underlying12 rfl) rfl)) (a_op (g_x rfl (x_p rfl (p_u64shl (n := 16) rfl rfl rfl rfl) rfl)) (a_op (g_x rfl (x_p rfl (p_u64or (a := ((lrd s0 0).toUInt64) ||| (shl_u64 ((lrd s0 1).toUInt64) 8)) (b := shl_u64 ((lrd s0 2).toUInt64) 16) rfl rfl rfl) rfl)) (a_op (g_x rfl (x_p rfl (p_move rfl rfl) rfl)) (a_op (g_x rfl (x_p rfl (p_ixt rfl Tryd.underlying9 rfl rfl rfl (lrd_get h5)) rfl)) (a_op (g_x rfl (x_p rfl (p_u8_u64 (a := (lrd s0 3)) rfl Tryd.underlying5 Tryd.underlying12 rfl) rfl)) (a_op (g_x rfl (x_p rfl (p_u64shl (n := 24) rfl rfl rfl rfl) rfl)) (a_nil)))))))))))))))))) ?_
  refine t_op rfl rfl (PureD.opD (p_u64or (a := (((lrd s0 0).toUInt64) ||| (shl_u64 ((lrd s0 1).toUInt64) 8)) ||| (shl_u64 ((lrd s0 2).toUInt64) 16)) (b := shl_u64 ((lrd s0 3).toUInt64) 24) rfl rfl rfl)) ?_
  refine t_op rfl rfl (PureD.opD (p_asg rfl rfl)) ?_
  refine t_gho (Gho_st (L := [(2, .p (AV.u64 (((((lrd s0 0).toUInt64) ||| (shl_u64 ((lrd s0 1).toUInt64) 8)) ||| (shl_u64 ((lrd s0 2).toUInt64) 16)) ||| (shl_u64 ((lrd s0 3).toUInt64) 24))))]) (H := []) (N := 59) rfl ⟨TLes.same _, trivial⟩ trivial) ?_
  refine gen1 (fun t2'1 => (⟨[(2, .p (AV.u64 t2'1))], [], 59⟩ : TS)) H ?_
  intro t2'1 H
  refine AW2_ret ?_
  have hz := some_elim H
  subst hz
  exact ⟨⟨res_tmp (.same _), trivial⟩, trivial⟩
 ·replace H := ite_else (ne_true h1) H
  refine AW2_skip ?_
  refine AW2_seq ?_
  refine chkK H fun h6 H => ?_
  refine chkK H fun h7 H => ?_
  refine chkK H fun h8 H => ?_
  refine chkK H fun h9 H => ?_
  refine chkK H fun h10 H => ?_
  refine chkK H fun h11 H => ?_
  refine chkK H fun h12 H => ?_
  refine chkK H fun h13 H => ?_
  refine AW2_ghoQ ?_
  refine AW2_draw 37 [37, 38] (fun k => ([.t s0, .p (AV.b8 (lrd s0 0)), .p (AV.u64 ((lrd s0 0).toUInt64)), .t s0, .p (AV.b8 (lrd s0 1)), .p (AV.u64 ((lrd s0 1).toUInt64)), .p (AV.u64 (shl_u64 ((lrd s0 1).toUInt64) 8)), .p (AV.u64 (((lrd s0 0).toUInt64) ||| (shl_u64 ((lrd s0 1).toUInt64) 8))), .t s0, .p (AV.b8 (lrd s0 2)), .p (AV.u64 ((lrd s0 2).toUInt64)), .p (AV.u64 (shl_u64 ((lrd s0 2).toUInt64) 16)), .p (AV.u64 ((((lrd s0 0).toUInt64) ||| (shl_u64 ((lrd s0 1).toUInt64) 8)) ||| (shl_u64 ((lrd s0 2).toUInt64) 16))), .t s0, .p (AV.b8 (lrd s0 3)), .p (AV.u64 ((lrd s0 3).toUInt64)), .p (AV.u64 (shl_u64 ((lrd s0 3).toUInt64) 24)), .p (AV.u64 (((((lrd s0 0).toUInt64) ||| (shl_u64 ((lrd s0 1).toUInt64) 8)) ||| (shl_u64 ((lrd s0 2).toUInt64) 16)) ||| (shl_u64 ((lrd s0 3).toUInt64) 24))), .t s0, .p (AV.b8 (lrd s0 4)), .p (AV.u64 ((lrd s0 4).toUInt64)), .p (AV.u64 (shl_u64 ((lrd s0 4).toUInt64) 32)), .p (AV.u64 ((((((lrd s0 0).toUInt64) ||| (shl_u64 ((lrd s0 1).toUInt64) 8)) ||| (shl_u64 ((lrd s0 2).toUInt64) 16)) ||| (shl_u64 ((lrd s0 3).toUInt64) 24)) ||| (shl_u64 ((lrd s0 4).toUInt64) 32))), .t s0, .p (AV.b8 (lrd s0 5)), .p (AV.u64 ((lrd s0 5).toUInt64)), .p (AV.u64 (shl_u64 ((lrd s0 5).toUInt64) 40)), .p (AV.u64 (((((((lrd s0 0).toUInt64) ||| (shl_u64 ((lrd s0 1).toUInt64) 8)) ||| (shl_u64 ((lrd s0 2).toUInt64) 16)) ||| (shl_u64 ((lrd s0 3).toUInt64) 24)) ||| (shl_u64 ((lrd s0 4).toUInt64) 32)) ||| (shl_u64 ((lrd s0 5).toUInt64) 40))), .t s0, .p (AV.b8 (lrd s0 6)), .p (AV.u64 ((lrd s0 6).toUInt64)), .p (AV.u64 (shl_u64 ((lrd s0 6).toUInt64) 48)), .p (AV.u64 ((((((((lrd s0 0).toUInt64) ||| (shl_u64 ((lrd s0 1).toUInt64) 8)) ||| (shl_u64 ((lrd s0 2).toUInt64) 16)) ||| (shl_u64 ((lrd s0 3).toUInt64) 24)) ||| (shl_u64 ((lrd s0 4).toUInt64) 32)) ||| (shl_u64 ((lrd s0 5).toUInt64) 40)) ||| (shl_u64 ((lrd s0 6).toUInt64) 48))), .t s0, .p (AV.b8 (lrd s0 7)), .p (AV.u64 ((lrd s0 7).toUInt64)), .p (AV.u64 (shl_u64 ((lrd s0 7).toUInt64) 56))] : List TV).getD k TV.any) (fun k => g_utf8_word_string_r2.getD k []) [(53, some 32), (57, some 36)] [] (fun k => g_utf8_word_string_r2c.getD k []) mixed (by kernel_rfl) rfl rfl (a_op (g_x rfl (x_p rfl (p_move rfl rfl) rfl)) (a_op (g_x rfl (x_p rfl (p_ixt rfl Tryd.underlying9 rfl rfl rfl (lrd_get h6)) rfl)) (a_op (g_x rfl (x_p rfl (p_u8_u64 (a := (lrd s0 0)) rfl Tryd.underlying5 Tryd.underlying22 rfl) rfl)) (a_op (g_x rfl (x_p rfl (p_move rfl rfl) rfl)) (a_op (g_x rfl (x_p rfl (p_ixt rfl Tryd.underlying9 rfl rfl rfl (lrd_get h7)) rfl)) (a_op (g_x rfl (x_p rfl (p_u8_u64 (a := (lrd s0 1)) rfl Tryd.underlying5 Tryd.underlying22 rfl) rfl)) (a_op (g_x rfl (x_p rfl (p_u64shl (n := 8) rfl rfl rfl rfl) rfl)) (a_op (g_x rfl (x_p rfl (p_u64or (a := (lrd s0 0).toUInt64) (b := shl_u64 ((lrd s0 1).toUInt64) 8) rfl rfl rfl) rfl)) (a_op (g_x rfl (x_p rfl (p_move rfl rfl) rfl)) (a_op (g_x rfl (x_p rfl (p_ixt rfl Tryd.underlying9 rfl rfl rfl (lrd_get h8)) rfl)) (a_op (g_x rfl (x_p rfl (p_u8_u64 (a := (lrd s0 2)) rfl Tryd.underlying5 Tryd.underlying22 rfl) rfl)) (a_op (g_x rfl (x_p rfl (p_u64shl (n := 16) rfl rfl rfl rfl) rfl)) (a_op (g_x rfl (x_p rfl (p_u64or (a := ((lrd s0 0).toUInt64) ||| (shl_u64 ((lrd s0 1).toUInt64) 8)) (b := shl_u64 ((lrd s0 2).toUInt64) 16) rfl rfl rfl) rfl)) (a_op (g_x rfl (x_p rfl (p_move rfl rfl) rfl)) (a_op (g_x rfl (x_p rfl (p_ixt rfl Tryd.underlying9 rfl rfl rfl (lrd_get h9)) rfl)) (a_op (g_x rfl (x_p rfl (p_u8_u64 (a := (lrd s0 3)) rfl Tryd.underlying5 Tryd.underlying22 rfl) rfl)) (a_op (g_x rfl (x_p rfl (p_u64shl (n := 24) rfl rfl rfl rfl) rfl)) (a_op (g_x rfl (x_p rfl (p_u64or (a := (((lrd s0 0).toUInt64) ||| (shl_u64 ((lrd s0 1).toUInt64) 8)) ||| (shl_u64 ((lrd s0 2).toUInt64) 16)) (b := shl_u64 ((lrd s0 3).toUInt64) 24) rfl rfl rfl) rfl)) (a_op (g_x rfl (x_p rfl (p_move rfl rfl) rfl)) (a_op (g_x rfl (x_p rfl (p_ixt rfl Tryd.underlying9 rfl rfl rfl (lrd_get h10)) rfl)) (a_op (g_x rfl (x_p rfl (p_u8_u64 (a := (lrd s0 4)) rfl Tryd.underlying5 Tryd.underlying22 rfl) rfl)) (a_op (g_x rfl (x_p rfl (p_u64shl (n := 32) rfl rfl rfl rfl) rfl)) (a_op (g_x rfl (x_p rfl (p_u64or (a := ((((lrd s0 0).toUInt64) ||| (shl_u64 ((lrd s0 1).toUInt64) 8)) ||| (shl_u64 ((lrd s0 2).toUInt64) 16)) ||| (shl_u64 ((lrd s0 3).toUInt64) 24)) (b := shl_u64 ((lrd s0 4).toUInt64) 32) rfl rfl rfl) rfl)) (a_op (g_x rfl (x_p rfl (p_move rfl rfl) rfl)) (a_op (g_x rfl (x_p rfl (p_ixt rfl Tryd.underlying9 rfl rfl rfl (lrd_get h11)) rfl)) (a_op (g_x rfl (x_p rfl (p_u8_u64 (a := (lrd s0 5)) rfl Tryd.underlying5 Tryd.underlying22 rfl) rfl)) (a_op (g_x rfl (x_p rfl (p_u64shl (n := 40) rfl rfl rfl rfl) rfl)) (a_op (g_x rfl (x_p rfl (p_u64or (a := (((((lrd s0 0).toUInt64) ||| (shl_u64 ((lrd s0 1).toUInt64) 8)) ||| (shl_u64 ((lrd s0 2).toUInt64) 16)) ||| (shl_u64 ((lrd s0 3).toUInt64) 24)) ||| (shl_u64 ((lrd s0 4).toUInt64) 32)) (b := shl_u64 ((lrd s0 5).toUInt64) 40) rfl rfl rfl) rfl)) (a_op (g_x rfl (x_p rfl (p_move rfl rfl) rfl)) (a_op (g_x rfl (x_p rfl (p_ixt rfl Tryd.underlying9 rfl rfl rfl (lrd_get h12)) rfl)) (a_op (g_x rfl (x_p rfl (p_u8_u64 (a := (lrd s0 6)) rfl Tryd.underlying5 Tryd.underlying22 rfl) rfl)) (a_op (g_x rfl (x_p rfl (p_u64shl (n := 48) rfl rfl rfl rfl) rfl)) (a_op (g_x rfl (x_p rfl (p_u64or (a := ((((((lrd s0 0).toUInt64) ||| (shl_u64 ((lrd s0 1).toUInt64) 8)) ||| (shl_u64 ((lrd s0 2).toUInt64) 16)) ||| (shl_u64 ((lrd s0 3).toUInt64) 24)) ||| (shl_u64 ((lrd s0 4).toUInt64) 32)) ||| (shl_u64 ((lrd s0 5).toUInt64) 40)) (b := shl_u64 ((lrd s0 6).toUInt64) 48) rfl rfl rfl) rfl)) (a_op (g_x rfl (x_p rfl (p_move rfl rfl) rfl)) (a_op (g_x rfl (x_p rfl (p_ixt rfl Tryd.underlying9 rfl rfl rfl (lrd_get h13)) rfl)) (a_op (g_x rfl (x_p rfl (p_u8_u64 (a := (lrd s0 7)) rfl Tryd.underlying5 Tryd.underlying22 rfl) rfl)) (a_op (g_x rfl (x_p rfl (p_u64shl (n := 56) rfl rfl rfl rfl) rfl)) (a_nil)))))))))))))))))))))))))))))))))))))) ?_
  refine t_op rfl rfl (PureD.opD (p_u64or (a := (((((((lrd s0 0).toUInt64) ||| (shl_u64 ((lrd s0 1).toUInt64) 8)) ||| (shl_u64 ((lrd s0 2).toUInt64) 16)) ||| (shl_u64 ((lrd s0 3).toUInt64) 24)) ||| (shl_u64 ((lrd s0 4).toUInt64) 32)) ||| (shl_u64 ((lrd s0 5).toUInt64) 40)) ||| (shl_u64 ((lrd s0 6).toUInt64) 48)) (b := shl_u64 ((lrd s0 7).toUInt64) 56) rfl rfl rfl)) ?_
  refine t_op rfl rfl (PureD.opD (p_asg rfl rfl)) ?_
  refine t_gho (Gho_st (L := [(2, .p (AV.u64 (((((((((lrd s0 0).toUInt64) ||| (shl_u64 ((lrd s0 1).toUInt64) 8)) ||| (shl_u64 ((lrd s0 2).toUInt64) 16)) ||| (shl_u64 ((lrd s0 3).toUInt64) 24)) ||| (shl_u64 ((lrd s0 4).toUInt64) 32)) ||| (shl_u64 ((lrd s0 5).toUInt64) 40)) ||| (shl_u64 ((lrd s0 6).toUInt64) 48)) ||| (shl_u64 ((lrd s0 7).toUInt64) 56))))]) (H := []) (N := 59) rfl ⟨TLes.same _, trivial⟩ trivial) ?_
  refine gen1 (fun t2'2 => (⟨[(2, .p (AV.u64 t2'2))], [], 59⟩ : TS)) H ?_
  intro t2'2 H
  refine AW2_ret ?_
  have hz := some_elim H
  subst hz
  exact ⟨⟨res_tmp (.same _), trivial⟩, trivial⟩

/-! utf8.ValidString -/
def g_utf8_ValidString_r7 : List (List (Nat × Option Nat)) := [[(0, none)], [(27, some 0)], [(28, some 1)], [(29, some 2)], [(0, none), (30, some 3)], [(30, some 3), (31, some 4)], [(0, none), (30, some 3)], [(30, some 3), (33, some 6)]]
def g_utf8_ValidString_r7c : List (List Nat) := [[], [0], [0, 1], [0, 1, 2], [0, 1, 2, 3], [0, 1, 2, 3, 4], [0, 1, 2, 3], [0, 1, 2, 3, 6], [0, 1, 2, 3, 4, 5, 6, 7], [0, 1, 2, 3, 4, 5, 6, 7, 8], [0, 1, 2, 3, 4, 5, 6, 7, 8, 9], [0, 1, 2, 3, 4, 5, 6, 7, 8, 9, 10], [0, 1, 2, 3, 4, 5, 6, 7, 8, 9, 10, 11]]
def g_utf8_ValidString_r9 : List (List (Nat × Option Nat)) := [[(0, none)], [(42, some 0)], [(43, some 1)], [(44, some 2)], [(0, none), (45, some 3)], [(45, some 3), (46, some 4)], [(0, none), (45, some 3)], [(45, some 3), (48, some 6)], [(45, some 3), (49, some 7)], [(45, some 3), (47, some 5), (50, some 8)], [(0, none), (45, some 3)], [(45, some 3), (52, some 10)], [(45, some 3), (53, some 11)], [(0, none), (45, some 3)], [(45, some 3), (55, some 13)], [(45, some 3), (56, some 14)], [(45, some 3), (54, some 12), (57, some 15)]]
def g_utf8_ValidString_r9c : List (List Nat) := [[], [0], [0, 1], [0, 1, 2], [0, 1, 2, 3], [0, 1, 2, 3, 4], [0, 1, 2, 3], [0, 1, 2, 3, 6], [0, 1, 2, 3, 4, 5, 6, 7], [0, 1, 2, 3, 4, 5, 6, 7, 8], [0, 1, 2, 3], [0, 1, 2, 3, 10], [0, 1, 2, 3, 4, 5, 6, 7, 8, 10, 11], [0, 1, 2, 3], [0, 1, 2, 3, 13], [0, 1, 2, 3, 4, 5, 6, 7, 8, 10, 11, 12, 13, 14], [0, 1, 2, 3, 4, 5, 6, 7, 8, 10, 11, 12, 13, 14, 15], [0, 1, 2, 3, 4, 5, 6, 7, 8, 9, 10, 11, 12, 13, 14, 15, 16], [0, 1, 2, 3, 4, 5, 6, 7, 8, 9, 10, 11, 12, 13, 14, 15, 16, 17], [0, 1, 2, 3, 4, 5, 6, 7, 8, 9, 10, 11, 12, 13, 14, 15, 16, 17, 18], [0, 1, 2, 3, 4, 5, 6, 7, 8, 9, 10, 11, 12, 13, 14, 15, 16, 17, 18, 19]]
def g_utf8_ValidString_r17 : List (List (Nat × Option Nat)) := [[(0, none)], [(78, some 0)], [(79, some 1)], [(80, some 2)], [(0, none), (81, some 3)], [(81, some 3), (82, some 4)], [(6, none), (81, some 3)], [(81, some 3), (84, some 6)], [(81, some 3), (83, some 5), (85, some 7)], [(81, some 3), (86, some 8)], [(87, some 9)], [(6, none), (88, some 10)], [(88, some 10), (89, some 11)], [(0, none), (88, some 10)], [(88, some 10), (91, some 13)]]
def g_utf8_ValidString_r17c : List (List Nat) := [[], [0], [0, 1], [0, 1, 2], [0, 1, 2, 3], [0, 1, 2, 3, 4], [0, 1, 2, 3], [0, 1, 2, 3, 6], [0, 1, 2, 3, 4, 5, 6, 7], [0, 1, 2, 3, 4, 5, 6, 7, 8], [0, 1, 2, 3, 4, 5, 6, 7, 8, 9], [0, 1, 2, 3, 4, 5, 6, 7, 8, 9, 10], [0, 1, 2, 3, 4, 5, 6, 7, 8, 9, 10, 11], [0, 1, 2, 3, 4, 5, 6, 7, 8, 9, 10], [0, 1, 2, 3, 4, 5, 6, 7, 8, 9, 10, 13], [0, 1, 2, 3, 4, 5, 6, 7, 8, 9, 10, 11, 12, 13, 14], [0, 1, 2, 3, 4, 5, 6, 7, 8, 9, 10, 11, 12, 13, 14, 15]]
def g_utf8_ValidString_r21 : List (List (Nat × Option Nat)) := [[(0, none)], [(99, some 0)], [(100, some 1)], [(101, some 2)], [(0, none), (102, some 3)], [(102, some 3), (103, some 4)], [(6, none), (102, some 3)], [(102, some 3), (105, some 6)], [(102, some 3), (104, some 5), (106, some 7)], [(102, some 3), (107, some 8)], [(108, some 9)], [(6, none), (109, some 10)], [(109, some 10), (110, some 11)], [(0, none), (109, some 10)], [(109, some 10), (112, some 13)]]
def g_utf8_ValidString_r21c : List (List Nat) := [[], [0], [0, 1], [0, 1, 2], [0, 1, 2, 3], [0, 1, 2, 3, 4], [0, 1, 2, 3], [0, 1, 2, 3, 6], [0, 1, 2, 3, 4, 5, 6, 7], [0, 1, 2, 3, 4, 5, 6, 7, 8], [0, 1, 2, 3, 4, 5, 6, 7, 8, 9], [0, 1, 2, 3, 4, 5, 6, 7, 8, 9, 10], [0, 1, 2, 3, 4, 5, 6, 7, 8, 9, 10, 11], [0, 1, 2, 3, 4, 5, 6, 7, 8, 9, 10], [0, 1, 2, 3, 4, 5, 6, 7, 8, 9, 10, 13], [0, 1, 2, 3, 4, 5, 6, 7, 8, 9, 10, 11, 12, 13, 14], [0, 1, 2, 3, 4, 5, 6, 7, 8, 9, 10, 11, 12, 13, 14, 15], [0, 1, 2, 3, 4, 5, 6, 7, 8, 9, 10, 11, 12, 13, 14, 15, 16], [0, 1, 2, 3, 4, 5, 6, 7, 8, 9, 10, 11, 12, 13, 14, 15, 16, 17], [0, 1, 2, 3, 4, 5, 6, 7, 8, 9, 10, 11, 12, 13, 14, 15, 16, 17, 18], [0, 1, 2, 3, 4, 5, 6, 7, 8, 9, 10, 11, 12, 13, 14, 15, 16, 17, 18, 19], [0, 1, 2, 3, 4, 5, 6, 7, 8, 9, 10, 11, 12, 13, 14, 15, 16, 17, 18, 19, 20], [0, 1, 2, 3, 4, 5, 6, 7, 8, 9, 10, 11, 12, 13, 14, 15, 16, 17, 18, 19, 20, 21], [0, 1, 2, 3, 4, 5, 6, 7, 8, 9, 10, 11, 12, 13, 14, 15, 16, 17, 18, 19, 20, 21, 22], [0, 1, 2, 3, 4, 5, 6, 7, 8, 9, 10, 11, 12, 13, 14, 15, 16, 17, 18, 19, 20, 21, 22, 23], [0, 1, 2, 3, 4, 5, 6, 7, 8, 9, 10, 11, 12, 13, 14, 15, 16, 17, 18, 19, 20, 21, 22, 23, 24], [0, 1, 2, 3, 4, 5, 6, 7, 8, 9, 10, 11, 12, 13, 14, 15, 16, 17, 18, 19, 20, 21, 22, 23, 24, 25]]
def g_utf8_ValidString_r25 : List (List (Nat × Option Nat)) := [[(0, none)], [(130, some 0)], [(131, some 1)], [(132, some 2)], [(0, none), (133, some 3)], [(133, some 3), (134, some 4)], [(6, none), (133, some 3)], [(133, some 3), (136, some 6)], [(133, some 3), (135, some 5), (137, some 7)], [(133, some 3), (138, some 8)], [(139, some 9)], [(6, none), (140, some 10)], [(140, some 10), (141, some 11)], [(0, none), (140, some 10)], [(140, some 10), (143, some 13)]]
def g_utf8_ValidString_r25c : List (List Nat) := [[], [0], [0, 1], [0, 1, 2], [0, 1, 2, 3], [0, 1, 2, 3, 4], [0, 1, 2, 3], [0, 1, 2, 3, 6], [0, 1, 2, 3, 4, 5, 6, 7], [0, 1, 2, 3, 4, 5, 6, 7, 8], [0, 1, 2, 3, 4, 5, 6, 7, 8, 9], [0, 1, 2, 3, 4, 5, 6, 7, 8, 9, 10], [0, 1, 2, 3, 4, 5, 6, 7, 8, 9, 10, 11], [0, 1, 2, 3, 4, 5, 6, 7, 8, 9, 10], [0, 1, 2, 3, 4, 5, 6, 7, 8, 9, 10, 13], [0, 1, 2, 3, 4, 5, 6, 7, 8, 9, 10, 11, 12, 13, 14], [0, 1, 2, 3, 4, 5, 6, 7, 8, 9, 10, 11, 12, 13, 14, 15], [0, 1, 2, 3, 4, 5, 6, 7, 8, 9, 10, 11, 12, 13, 14, 15, 16], [0, 1, 2, 3, 4, 5, 6, 7, 8, 9, 10, 11, 12, 13, 14, 15, 16, 17], [0, 1, 2, 3, 4, 5, 6, 7, 8, 9, 10, 11, 12, 13, 14, 15, 16, 17, 18], [0, 1, 2, 3, 4, 5, 6, 7, 8, 9, 10, 11, 12, 13, 14, 15, 16, 17, 18, 19], [0, 1, 2, 3, 4, 5, 6, 7, 8, 9, 10, 11, 12, 13, 14, 15, 16, 17, 18, 19, 20], [0, 1, 2, 3, 4, 5, 6, 7, 8, 9, 10, 11, 12, 13, 14, 15, 16, 17, 18, 19, 20, 21], [0, 1, 2, 3, 4, 5, 6, 7, 8, 9, 10, 11, 12, 13, 14, 15, 16, 17, 18, 19, 20, 21, 22], [0, 1, 2, 3, 4, 5, 6, 7, 8, 9, 10, 11, 12, 13, 14, 15, 16, 17, 18, 19, 20, 21, 22, 23], [0, 1, 2, 3, 4, 5, 6, 7, 8, 9, 10, 11, 12, 13, 14, 15, 16, 17, 18, 19, 20, 21, 22, 23, 24], [0, 1, 2, 3, 4, 5, 6, 7, 8, 9, 10, 11, 12, 13, 14, 15, 16, 17, 18, 19, 20, 21, 22, 23, 24, 25], [0, 1, 2, 3, 4, 5, 6, 7, 8, 9, 10, 11, 12, 13, 14, 15, 16, 17, 18, 19, 20, 21, 22, 23, 24, 25, 26], [0, 1, 2, 3, 4, 5, 6, 7, 8, 9, 10, 11, 12, 13, 14, 15, 16, 17, 18, 19, 20, 21, 22, 23, 24, 25, 26, 27], [0, 1, 2, 3, 4, 5, 6, 7, 8, 9, 10, 11, 12, 13, 14, 15, 16, 17, 18, 19, 20, 21, 22, 23, 24, 25, 26, 27, 28], [0, 1, 2, 3, 4, 5, 6, 7, 8, 9, 10, 11, 12, 13, 14, 15, 16, 17, 18, 19, 20, 21, 22, 23, 24, 25, 26, 27, 28, 29], [0, 1, 2, 3, 4, 5, 6, 7, 8, 9, 10, 11, 12, 13, 14, 15, 16, 17, 18, 19, 20, 21, 22, 23, 24, 25, 26, 27, 28, 29, 30], [0, 1, 2, 3, 4, 5, 6, 7, 8, 9, 10, 11, 12, 13, 14, 15, 16, 17, 18, 19, 20, 21, 22, 23, 24, 25, 26, 27, 28, 29, 30, 31], [0, 1, 2, 3, 4, 5, 6, 7, 8, 9, 10, 11, 12, 13, 14, 15, 16, 17, 18, 19, 20, 21, 22, 23, 24, 25, 26, 27, 28, 29, 30, 31, 32], [0, 1, 2, 3, 4, 5, 6, 7, 8, 9, 10, 11, 12, 13, 14, 15, 16, 17, 18, 19, 20, 21, 22, 23, 24, 25, 26, 27, 28, 29, 30, 31, 32, 33], [0, 1, 2, 3, 4, 5, 6, 7, 8, 9, 10, 11, 12, 13, 14, 15, 16, 17, 18, 19, 20, 21, 22, 23, 24, 25, 26, 27, 28, 29, 30, 31, 32, 33, 34], [0, 1, 2, 3, 4, 5, 6, 7, 8, 9, 10, 11, 12, 13, 14, 15, 16, 17, 18, 19, 20, 21, 22, 23, 24, 25, 26, 27, 28, 29, 30, 31, 32, 33, 34, 35]]
noncomputable def g_utf8_ValidString_l1 : (List UInt8) → Option (((List UInt8)) ⊕ (((List UInt8))))
  | s0_1 => ((if (s0_1.length : Int) > (32 : Int) then (g_utf8_word_string s0_1).bind fun r'9 => if 0 ≤ (8 : Int) ∧ (8 : Int) ≤ (s0_1.length : Int) then (g_utf8_word_string (cut s0_1 (8 : Int) (s0_1.length : Int))).bind fun r'10 => if 0 ≤ (16 : Int) ∧ (16 : Int) ≤ (s0_1.length : Int) then (g_utf8_word_string (cut s0_1 (16 : Int) (s0_1.length : Int))).bind fun r'11 => if 0 ≤ (24 : Int) ∧ (24 : Int) ≤ (s0_1.length : Int) then (g_utf8_word_string (cut s0_1 (24 : Int) (s0_1.length : Int))).bind fun r'12 => some (decide (((r'9 ||| r'10) ||| (r'11 ||| r'12)) &&& (9259542123273814144 : UInt64) = (0 : UInt64))) else none else none else none else some false)).bind fun g'13 => (if g'13 = true then if 0 ≤ (32 : Int) ∧ (32 : Int) ≤ (s0_1.length : Int) then some (.inl (cut s0_1 (32 : Int) (s0_1.length : Int))) else none else some (.inr s0_1))
noncomputable def g_utf8_ValidString_l0 : (List UInt8) → Option (((List UInt8)) ⊕ (Bool ⊕ Unit))
  | s0_0 => (if (s0_0.length : Int) > (0 : Int) then if 0 < s0_0.length then (if (lrd s0_0 0) < (128 : UInt8) then if 0 ≤ (1 : Int) ∧ (1 : Int) ≤ (s0_0.length : Int) then (((if ((cut s0_0 (1 : Int) (s0_0.length : Int)).length : Int) > (8 : Int) then (g_utf8_word_string (cut s0_0 (1 : Int) (s0_0.length : Int))).bind fun r'3 => some (decide (r'3 &&& (9259542123273814144 : UInt64) = (0 : UInt64))) else some false)).bind fun g'4 => (if g'4 = true then if 0 ≤ (8 : Int) ∧ (8 : Int) ≤ ((cut s0_0 (1 : Int) (s0_0.length : Int)).length : Int) then letO ((cut (cut s0_0 (1 : Int) (s0_0.length : Int)) (8 : Int) ((cut s0_0 (1 : Int) (s0_0.length : Int)).length : Int))) fun s0'5 => ((if (s0'5.length : Int) > (16 : Int) then (g_utf8_word_string s0'5).bind fun r'6 => if 0 ≤ (8 : Int) ∧ (8 : Int) ≤ (s0'5.length : Int) then (g_utf8_word_string (cut s0'5 (8 : Int) (s0'5.length : Int))).bind fun r'7 => some (decide ((r'6 ||| r'7) &&& (9259542123273814144 : UInt64) = (0 : UInt64))) else none else some false)).bind fun g'8 => (if g'8 = true then if 0 ≤ (16 : Int) ∧ (16 : Int) ≤ (s0'5.length : Int) then (loopO (g_utf8_ValidString_l1) (cut s0'5 (16 : Int) (s0'5.length : Int))).bind fun y'17 => some y'17 else none else some s0'5) else none else some (cut s0_0 (1 : Int) (s0_0.length : Int)))).bind fun j'1 => some (.inl j'1) else none else if 0 ≤ ((lrd s0_0 0).toNat : Int) ∧ ((lrd s0_0 0).toNat : Int) < (256 : Int) then letO ((((lrd tab1 (((lrd s0_0 0).toNat : Int).toNat)) &&& (7 : UInt8)).toNat : Int)) fun size5'18 => if 0 ≤ ((shr_u8 (lrd tab1 (((lrd s0_0 0).toNat : Int).toNat)) 4).toNat : Int) ∧ ((shr_u8 (lrd tab1 (((lrd s0_0 0).toNat : Int).toNat)) 4).toNat : Int) < (16 : Int) then letO ((lrd tab2 (((shr_u8 (lrd tab1 (((lrd s0_0 0).toNat : Int).toNat)) 4).toNat : Int).toNat))) fun accept6'19 => (if size5'18 = (2 : Int) then ((if (s0_0.length : Int) < (2 : Int) then some true else if 1 < s0_0.length then (if (lrd s0_0 1) < accept6'19.lo_ then some true else if 1 < s0_0.length then some (decide (accept6'19.hi_ < (lrd s0_0 1))) else none) else none)).bind fun g'20 => (if g'20 = true then some (.inr (.inl false)) else if 0 ≤ (2 : Int) ∧ (2 : Int) ≤ (s0_0.length : Int) then some (.inl (cut s0_0 (2 : Int) (s0_0.length : Int))) else none) else (if size5'18 = (3 : Int) then ((if (s0_0.length : Int) < (3 : Int) then some true else if 1 < s0_0.length then (if (lrd s0_0 1) < accept6'19.lo_ then some true else if 1 < s0_0.length then (if accept6'19.hi_ < (lrd s0_0 1) then some true else if 2 < s0_0.length then (if (lrd s0_0 2) < (128 : UInt8) then some true else if 2 < s0_0.length then some (decide ((191 : UInt8) < (lrd s0_0 2))) else none) else none) else none) else none)).bind fun g'21 => (if g'21 = true then some (.inr (.inl false)) else if 0 ≤ (3 : Int) ∧ (3 : Int) ≤ (s0_0.length : Int) then some (.inl (cut s0_0 (3 : Int) (s0_0.length : Int))) else none) else (if size5'18 = (4 : Int) then ((if (s0_0.length : Int) < (4 : Int) then some true else if 1 < s0_0.length then (if (lrd s0_0 1) < accept6'19.lo_ then some true else if 1 < s0_0.length then (if accept6'19.hi_ < (lrd s0_0 1) then some true else if 2 < s0_0.length then (if (lrd s0_0 2) < (128 : UInt8) then some true else if 2 < s0_0.length then (if (191 : UInt8) < (lrd s0_0 2) then some true else if 3 < s0_0.length then (if (lrd s0_0 3) < (128 : UInt8) then some true else if 3 < s0_0.length then some (decide ((191 : UInt8) < (lrd s0_0 3))) else none) else none) else none) else none) else none) else none)).bind fun g'22 => (if g'22 = true then some (.inr (.inl false)) else if 0 ≤ (4 : Int) ∧ (4 : Int) ≤ (s0_0.length : Int) then some (.inl (cut s0_0 (4 : Int) (s0_0.length : Int))) else none) else some (.inr (.inl false))))) else none else none) else none else some (.inr (.inr ())))
noncomputable def g_utf8_ValidString (s0 : List UInt8) : Option (Bool) :=
  (loopO (g_utf8_ValidString_l0) s0).bind fun o'26 => match o'26 with | .inl y'27 => some y'27 | .inr (y'28) => some true
set_option maxHeartbeats 4000000 in
set_option maxRecDepth 100000 in
theorem g_utf8_ValidString_ac {s0 : List UInt8} {r : Bool} (H : g_utf8_ValidString s0 = some r) : ACp Tryd.prog 40 [(AV.txt s0)] (AV.bool r) := by
 refine ACp_of (AC2_of_body (vs := [.b r]) Tryd.func40 rfl rfl (Nat.le_of_ble_eq_true rfl) rfl ?_) (fun _ => .same _)
 unfold g_utf8_ValidString at H
 refine as2 [(0, .t s0)] [] rfl rfl rfl ?_
 refine sg [0] rfl ?_
 refine rp rfl rfl (p_asg rfl rfl) ?_
 refine rz [(0, .t s0)] [] rfl rfl rfl ?_
 refine AW2_seq ?_
 refine AW2_block ?_
 refine as2 [(0, .t s0)] [] rfl rfl rfl ?_
 refine bindK H fun o'26 h70 H => ?_
 refine AW2_loopO (fun a'23 : (List UInt8) => (⟨[(0, .t a'23)], [], 169⟩ : TS)) (fun (o : Bool ⊕ Unit) e s' => match o with | .inl y'24 => e = Go.Exit.ret ∧ ResAll Tryd.prog s' [ResultVar.tmp 2] [.b y'24] ∧ HFits s' [] | .inr (y'25) => e = Go.Exit.exit 0 ∧ s' = (⟨[], [], 169⟩ : TS)) h70 rfl (fun s0_0 x hx => ?_) (fun e s' hs => ?_)
 ·clear H
  have H := hx
  clear hx
  unfold g_utf8_ValidString_l0 at H
  refine AW2_seq ?_
  refine sg [0, 1, 2] rfl ?_
  refine rp rfl rfl (p_move rfl rfl) ?_
  refine rp rfl rfl (p_lent rfl Tryd.underlying9 rfl) ?_
  refine rp rfl rfl (p_bin rfl rfl rfl rfl) ?_
  refine rz [(0, .t s0_0), (9, .b (decide ((s0_0.length : Int) > (0 : Int))))] [] rfl rfl rfl ?_
  refine AW2_if (p := (s0_0.length : Int) > (0 : Int)) rfl (fun h1 => ?_) (fun h1 => ?_)
  ·replace H := ite_then h1 H
   refine as2 [(0, .t s0_0)] [] rfl rfl rfl ?_
   refine AW2_skip ?_
   refine AW2_block ?_
   refine sg [0, 1, 2] rfl ?_
   refine rp rfl rfl (p_move rfl rfl) ?_
   refine chkK H fun h2 H => ?_
   refine rp rfl rfl (p_ixt rfl Tryd.underlying9 rfl rfl rfl (lrd_get h2)) ?_
   refine rp rfl rfl (p_asg rfl rfl) ?_
   refine rz [(0, .t s0_0), (3, .p (AV.b8 (lrd s0_0 0)))] [] rfl rfl rfl ?_
   refine AW2_seq ?_
   refine sg [0, 1] rfl ?_
   refine rp rfl rfl (p_move rfl rfl) ?_
   refine rp rfl rfl (p_u8lt (a := (lrd s0_0 0)) (b := (128 : UInt8)) rfl rfl rfl) ?_
   refine rz [(0, .t s0_0), (3, .p (AV.b8 (lrd s0_0 0))), (13, .b (decide ((lrd s0_0 0) < (128 : UInt8))))] [] rfl rfl rfl ?_
   refine AW2_if (p := (lrd s0_0 0) < (128 : UInt8)) rfl (fun h3 => ?_) (fun h3 => ?_)
   ·replace H := ite_then h3 H
    refine sg [0, 1, 2] rfl ?_
    refine rp rfl rfl (p_move rfl rfl) ?_
    refine chkK H fun h4 H => ?_
    refine rp rfl rfl (u_cutt (a := (1 : Int)) (b := (s0_0.length : Int)) rfl Tryd.underlying9 rfl (bT_i (show 0 ≤ (1 : Int) ∧ (1 : Int) ≤ (s0_0.length : Int) ∧ (s0_0.length : Int) ≤ (s0_0.length : Int) from ⟨h4.1, h4.2, Int.le_refl _⟩).1 rfl) (bT_len _) (show 0 ≤ (1 : Int) ∧ (1 : Int) ≤ (s0_0.length : Int) ∧ (s0_0.length : Int) ≤ (s0_0.length : Int) from ⟨h4.1, h4.2, Int.le_refl _⟩)) ?_
    refine rp rfl rfl (p_asg rfl rfl) ?_
    refine rz [(0, .t (cut s0_0 (1 : Int) (s0_0.length : Int)))] [] rfl rfl rfl ?_
    refine AW2_seq ?_
    refine bindK H fun j'1 h5 H => ?_
    refine AW2_mid (⟨[(0, .t j'1)], [], 169⟩ : TS) ?_ ?_
    ·clear H
     have H := h5
     clear h5
     refine AW2_seq ?_
     refine bindK H fun g'4 h9 H => ?_
     refine AW2_mid (⟨[(0, .t (cut s0_0 (1 : Int) (s0_0.length : Int))), (24, .b g'4)], [], 169⟩ : TS) ?_ ?_
     ·clear H
      have H := h9
      clear h9
      refine AW2_reg [0, 1, 2, 3, 4, 5, 6, 7, 8] rfl ?_
      refine rp rfl rfl (p_move rfl rfl) ?_
      refine rp rfl rfl (p_lent rfl Tryd.underlying9 rfl) ?_
      refine rp rfl rfl (p_bin rfl rfl rfl rfl) ?_
      refine rp rfl rfl (p_move rfl rfl) ?_
      refine (Classical.em (((cut s0_0 (1 : Int) (s0_0.length : Int)).length : Int) > (8 : Int))).elim (fun h7 => ?_) (fun h7 => ?_)
      ·replace H := ite_then h7 H
       refine r_on rfl rfl rfl rfl (decide_eq_true h7) rfl (PureD.opD (p_move rfl rfl)) ?_
       refine bindK H fun r'3 h8 H => ?_
       refine r_on rfl rfl rfl rfl (decide_eq_true h7) rfl (PureD.opD (p_callp rfl rfl rfl Tryd.func66 rfl rfl (g_utf8_word_string_ac h8) ⟨rfl, trivial⟩)) ?_
       refine r_on rfl rfl rfl rfl (decide_eq_true h7) rfl (PureD.opD (p_u64and (a := r'3) (b := (9259542123273814144 : UInt64)) rfl rfl rfl)) ?_
       refine r_on rfl rfl rfl rfl (decide_eq_true h7) rfl (PureD.opD (p_u64eq (a := r'3 &&& (9259542123273814144 : UInt64)) (b := (0 : UInt64)) rfl rfl rfl)) ?_
       refine rp rfl rfl (p_pkt rfl rfl (decide_eq_true h7) (.same _)) ?_
       refine rs [(0, .t (cut s0_0 (1 : Int) (s0_0.length : Int))), (24, .b (decide (r'3 &&& (9259542123273814144 : UInt64) = (0 : UInt64))))] [] rfl rfl rfl ?_
       have hz := some_elim H
       subst hz
       exact RunW_nil rfl
      ·replace H := ite_else h7 H
       iterate 4 (refine r_off rfl rfl rfl rfl (decide_eq_false h7) rfl rfl ?_)
       refine rp rfl rfl (p_pkf rfl rfl (decide_eq_false h7) (.same _)) ?_
       refine rs [(0, .t (cut s0_0 (1 : Int) (s0_0.length : Int))), (24, .b false)] [] rfl rfl rfl ?_
       have hz := some_elim H
       subst hz
       exact RunW_nil rfl
     ·refine AW2_cond rfl (fun h10 => ?_) (fun h10 => ?_)
      ·replace H := ite_then h10 H
       refine sg [0, 1, 2] rfl ?_
       refine rp rfl rfl (p_move rfl rfl) ?_
       refine chkK H fun h11 H => ?_
       refine rp rfl rfl (u_cutt (a := (8 : Int)) (b := ((cut s0_0 (1 : Int) (s0_0.length : Int)).length : Int)) rfl Tryd.underlying9 rfl (bT_i (show 0 ≤ (8 : Int) ∧ (8 : Int) ≤ ((cut s0_0 (1 : Int) (s0_0.length : Int)).length : Int) ∧ ((cut s0_0 (1 : Int) (s0_0.length : Int)).length : Int) ≤ ((cut s0_0 (1 : Int) (s0_0.length : Int)).length : Int) from ⟨h11.1, h11.2, Int.le_refl _⟩).1 rfl) (bT_len _) (show 0 ≤ (8 : Int) ∧ (8 : Int) ≤ ((cut s0_0 (1 : Int) (s0_0.length : Int)).length : Int) ∧ ((cut s0_0 (1 : Int) (s0_0.length : Int)).length : Int) ≤ ((cut s0_0 (1 : Int) (s0_0.length : Int)).length : Int) from ⟨h11.1, h11.2, Int.le_refl _⟩)) ?_
       refine rp rfl rfl (p_asg rfl rfl) ?_
       refine rz [(0, .t (cut (cut s0_0 (1 : Int) (s0_0.length : Int)) (8 : Int) ((cut s0_0 (1 : Int) (s0_0.length : Int)).length : Int)))] [] rfl rfl rfl ?_
       refine gen1 (fun s0'5 => (⟨[(0, .t s0'5)], [], 169⟩ : TS)) H ?_
       intro s0'5 H
       refine AW2_seq ?_
       refine bindK H fun g'8 h16 H => ?_
       refine AW2_mid (⟨[(0, .t s0'5), (39, .b g'8)], [], 169⟩ : TS) ?_ ?_
       ·clear H
        have H := h16
        clear h16
        refine (Classical.em ((s0'5.length : Int) > (16 : Int))).elim (fun h12 => ?_) (fun h12 => ?_)
        ·replace H := ite_then h12 H
         refine bindK H fun r'6 h13 H => ?_
         refine chkK H fun h14 H => ?_
         refine bindK H fun r'7 h15 H => ?_
         have hz := some_elim H
         subst hz
         refine AW2_ghoQ ?_
         refine AW2_draw 8 [8, 9, 10, 11, 12] (fun k => ([.t s0'5, .i (s0'5.length : Int), .b (decide ((s0'5.length : Int) > (16 : Int))), .b (decide ((s0'5.length : Int) > (16 : Int))), .t s0'5, .p (AV.u64 r'6), .t s0'5, .t (cut s0'5 (8 : Int) (s0'5.length : Int))] : List TV).getD k TV.any) (fun k => g_utf8_ValidString_r7.getD k []) [(0, none), (30, some 3), (32, some 5), (34, some 7)] [] (fun k => g_utf8_ValidString_r7c.getD k []) mixed (by kernel_rfl) rfl rfl (a_op (g_x rfl (x_p rfl (p_move rfl rfl) rfl)) (a_op (g_x rfl (x_p rfl (p_lent rfl Tryd.underlying9 rfl) rfl)) (a_op (g_x rfl (x_p rfl (p_bin rfl rfl rfl rfl) rfl)) (a_op (g_x rfl (x_p rfl (p_move rfl rfl) rfl)) (a_op (g_on rfl rfl rfl (decide_eq_true h12) rfl (x_p rfl (p_move rfl rfl) rfl)) (a_op (g_on rfl rfl rfl (decide_eq_true h12) rfl (x_p rfl (p_callp rfl rfl rfl Tryd.func66 rfl rfl (g_utf8_word_string_ac h13) ⟨rfl, trivial⟩) rfl)) (a_op (g_on rfl rfl rfl (decide_eq_true h12) rfl (x_p rfl (p_move rfl rfl) rfl)) (a_op (g_on rfl rfl rfl (decide_eq_true h12) rfl (x_p rfl (u_cutt (a := (8 : Int)) (b := (s0'5.length : Int)) rfl Tryd.underlying9 rfl (bT_i (show 0 ≤ (8 : Int) ∧ (8 : Int) ≤ (s0'5.length : Int) ∧ (s0'5.length : Int) ≤ (s0'5.length : Int) from ⟨h14.1, h14.2, Int.le_refl _⟩).1 rfl) (bT_len _) (show 0 ≤ (8 : Int) ∧ (8 : Int) ≤ (s0'5.length : Int) ∧ (s0'5.length : Int) ≤ (s0'5.length : Int) from ⟨h14.1, h14.2, Int.le_refl _⟩)) rfl)) (a_nil))))))))) ?_
         refine t_on rfl rfl rfl rfl (decide_eq_true h12) rfl (PureD.opD (p_callp rfl rfl rfl Tryd.func66 rfl rfl (g_utf8_word_string_ac h15) ⟨rfl, trivial⟩)) ?_
         refine t_on rfl rfl rfl rfl (decide_eq_true h12) rfl (PureD.opD (p_u64or (a := r'6) (b := r'7) rfl rfl rfl)) ?_
         refine t_on rfl rfl rfl rfl (decide_eq_true h12) rfl (PureD.opD (p_u64and (a := r'6 ||| r'7) (b := (9259542123273814144 : UInt64)) rfl rfl rfl)) ?_
         refine t_on rfl rfl rfl rfl (decide_eq_true h12) rfl (PureD.opD (p_u64eq (a := (r'6 ||| r'7) &&& (9259542123273814144 : UInt64)) (b := (0 : UInt64)) rfl rfl rfl)) ?_
         refine t_op rfl rfl (PureD.opD (p_pkt rfl rfl (decide_eq_true h12) (.same _))) ?_
         refine t_gho (Gho_st (L := [(0, .t s0'5), (39, .b (decide ((r'6 ||| r'7) &&& (9259542123273814144 : UInt64) = (0 : UInt64))))]) (H := []) (N := 169) rfl ⟨TLes.same _, TLes.same _, trivial⟩ trivial) ?_
         exact rfl
        ·replace H := ite_else h12 H
         have hz := some_elim H
         subst hz
         refine AW2_ghoQ ?_
         refine AW2_draw 8 [8, 9, 10, 11, 12] (fun k => ([.t s0'5, .i (s0'5.length : Int), .b (decide ((s0'5.length : Int) > (16 : Int))), .b (decide ((s0'5.length : Int) > (16 : Int))), .p (.tup []), .p (.tup []), .p (.tup []), .p (.tup [])] : List TV).getD k TV.any) (fun k => g_utf8_ValidString_r7.getD k []) [(0, none), (30, some 3), (32, some 5), (34, some 7)] [] (fun k => g_utf8_ValidString_r7c.getD k []) mixed (by kernel_rfl) rfl rfl (a_op (g_x rfl (x_p rfl (p_move rfl rfl) rfl)) (a_op (g_x rfl (x_p rfl (p_lent rfl Tryd.underlying9 rfl) rfl)) (a_op (g_x rfl (x_p rfl (p_bin rfl rfl rfl rfl) rfl)) (a_op (g_x rfl (x_p rfl (p_move rfl rfl) rfl)) (a_op (g_off rfl rfl rfl rfl rfl (decide_eq_false h12) rfl rfl) (a_op (g_off rfl rfl rfl rfl rfl (decide_eq_false h12) rfl rfl) (a_op (g_off rfl rfl rfl rfl rfl (decide_eq_false h12) rfl rfl) (a_op (g_off rfl rfl rfl rfl rfl (decide_eq_false h12) rfl rfl) (a_nil))))))))) ?_
         refine t_off rfl rfl rfl rfl (decide_eq_false h12) rfl rfl ?_
         refine t_off rfl rfl rfl rfl (decide_eq_false h12) rfl rfl ?_
         refine t_off rfl rfl rfl rfl (decide_eq_false h12) rfl rfl ?_
         refine t_off rfl rfl rfl rfl (decide_eq_false h12) rfl rfl ?_
         refine t_op rfl rfl (PureD.opD (p_pkf rfl rfl (decide_eq_false h12) (.same _))) ?_
         refine t_gho (Gho_st (L := [(0, .t s0'5), (39, .b false)]) (H := []) (N := 169) rfl ⟨TLes.same _, TLes.same _, trivial⟩ trivial) ?_
         exact rfl
       ·refine AW2_cond rfl (fun h17 => ?_) (fun h17 => ?_)
        ·replace H := ite_then h17 H
         refine sg [0, 1, 2] rfl ?_
         refine rp rfl rfl (p_move rfl rfl) ?_
         refine chkK H fun h18 H => ?_
         refine rp rfl rfl (u_cutt (a := (16 : Int)) (b := (s0'5.length : Int)) rfl Tryd.underlying9 rfl (bT_i (show 0 ≤ (16 : Int) ∧ (16 : Int) ≤ (s0'5.length : Int) ∧ (s0'5.length : Int) ≤ (s0'5.length : Int) from ⟨h18.1, h18.2, Int.le_refl _⟩).1 rfl) (bT_len _) (show 0 ≤ (16 : Int) ∧ (16 : Int) ≤ (s0'5.length : Int) ∧ (s0'5.length : Int) ≤ (s0'5.length : Int) from ⟨h18.1, h18.2, Int.le_refl _⟩)) ?_
         refine rp rfl rfl (p_asg rfl rfl) ?_
         refine rz [(0, .t (cut s0'5 (16 : Int) (s0'5.length : Int)))] [] rfl rfl rfl ?_
         refine AW2_block ?_
         refine as2 [(0, .t (cut s0'5 (16 : Int) (s0'5.length : Int)))] [] rfl rfl rfl ?_
         refine bindK H fun y'17 h30 H => ?_
         refine AW2_loopO (fun a'14 : (List UInt8) => (⟨[(0, .t a'14)], [], 169⟩ : TS)) (fun (y'15 : ((List UInt8))) e s' => e = Go.Exit.exit 2 ∧ s' = (⟨[(0, .t y'15)], [], 169⟩ : TS)) h30 rfl (fun s0_1 x hx => ?_) (fun e s' hs => ?_)
         ·clear H
          have H := hx
          clear hx
          unfold g_utf8_ValidString_l1 at H
          refine AW2_seq ?_
          refine AW2_seq ?_
          refine bindK H fun g'13 h27 H => ?_
          refine AW2_mid (⟨[(0, .t s0_1), (62, .b g'13)], [], 169⟩ : TS) ?_ ?_
          ·clear H
           have H := h27
           clear h27
           refine (Classical.em ((s0_1.length : Int) > (32 : Int))).elim (fun h19 => ?_) (fun h19 => ?_)
           ·replace H := ite_then h19 H
            refine bindK H fun r'9 h20 H => ?_
            refine chkK H fun h21 H => ?_
            refine bindK H fun r'10 h22 H => ?_
            refine chkK H fun h23 H => ?_
            refine bindK H fun r'11 h24 H => ?_
            refine chkK H fun h25 H => ?_
            refine bindK H fun r'12 h26 H => ?_
            have hz := some_elim H
            subst hz
            refine AW2_ghoQ ?_
            refine AW2_draw 17 [17, 18, 19, 20] (fun k => ([.t s0_1, .i (s0_1.length : Int), .b (decide ((s0_1.length : Int) > (32 : Int))), .b (decide ((s0_1.length : Int) > (32 : Int))), .t s0_1, .p (AV.u64 r'9), .t s0_1, .t (cut s0_1 (8 : Int) (s0_1.length : Int)), .p (AV.u64 r'10), .p (AV.u64 (r'9 ||| r'10)), .t s0_1, .t (cut s0_1 (16 : Int) (s0_1.length : Int)), .p (AV.u64 r'11), .t s0_1, .t (cut s0_1 (24 : Int) (s0_1.length : Int)), .p (AV.u64 r'12), .p (AV.u64 (r'11 ||| r'12))] : List TV).getD k TV.any) (fun k => g_utf8_ValidString_r9.getD k []) [(0, none), (45, some 3), (51, some 9), (58, some 16)] [] (fun k => g_utf8_ValidString_r9c.getD k []) mixed (by kernel_rfl) rfl rfl (a_op (g_x rfl (x_p rfl (p_move rfl rfl) rfl)) (a_op (g_x rfl (x_p rfl (p_lent rfl Tryd.underlying9 rfl) rfl)) (a_op (g_x rfl (x_p rfl (p_bin rfl rfl rfl rfl) rfl)) (a_op (g_x rfl (x_p rfl (p_move rfl rfl) rfl)) (a_op (g_on rfl rfl rfl (decide_eq_true h19) rfl (x_p rfl (p_move rfl rfl) rfl)) (a_op (g_on rfl rfl rfl (decide_eq_true h19) rfl (x_p rfl (p_callp rfl rfl rfl Tryd.func66 rfl rfl (g_utf8_word_string_ac h20) ⟨rfl, trivial⟩) rfl)) (a_op (g_on rfl rfl rfl (decide_eq_true h19) rfl (x_p rfl (p_move rfl rfl) rfl)) (a_op (g_on rfl rfl rfl (decide_eq_true h19) rfl (x_p rfl (u_cutt (a := (8 : Int)) (b := (s0_1.length : Int)) rfl Tryd.underlying9 rfl (bT_i (show 0 ≤ (8 : Int) ∧ (8 : Int) ≤ (s0_1.length : Int) ∧ (s0_1.length : Int) ≤ (s0_1.length : Int) from ⟨h21.1, h21.2, Int.le_refl _⟩).1 rfl) (bT_len _) (show 0 ≤ (8 : Int) ∧ (8 : Int) ≤ (s0_1.length : Int) ∧ (s0_1.length : Int) ≤ (s0_1.length : Int) from ⟨h21.1, h21.2, Int.le_refl _⟩)) rfl)) (a_op (g_on rfl rfl rfl (decide_eq_true h19) rfl (x_p rfl (p_callp rfl rfl rfl Tryd.func66 rfl rfl (g_utf8_word_string_ac h22) ⟨rfl, trivial⟩) rfl)) (a_op (g_on rfl rfl rfl (decide_eq_true h19) rfl (x_p rfl (p_u64or (a := r'9) (b := r'10) rfl rfl rfl) rfl)) (a_op (g_on rfl rfl rfl (decide_eq_true h19) rfl (x_p rfl (p_move rfl rfl) rfl)) (a_op (g_on rfl rfl rfl (decide_eq_true h19) rfl (x_p rfl (u_cutt (a := (16 : Int)) (b := (s0_1.length : Int)) rfl Tryd.underlying9 rfl (bT_i (show 0 ≤ (16 : Int) ∧ (16 : Int) ≤ (s0_1.length : Int) ∧ (s0_1.length : Int) ≤ (s0_1.length : Int) from ⟨h23.1, h23.2, Int.le_refl _⟩).1 rfl) (bT_len _) (show 0 ≤ (16 : Int) ∧ (16 : Int) ≤ (s0_1.length : Int) ∧ (s0_1.length : Int) ≤ (s0_1.length : Int) from ⟨h23.1, h23.2, Int.le_refl _⟩)) rfl)) (a_op (g_on rfl rfl rfl (decide_eq_true h19) rfl (x_p rfl (p_callp rfl rfl rfl Tryd.func66 rfl rfl (g_utf8_word_string_ac h24) ⟨rfl, trivial⟩) rfl)) (a_op (g_on rfl rfl rfl (decide_eq_true h19) rfl (x_p rfl (p_move rfl rfl) rfl)) (a_op (g_on rfl rfl rfl (decide_eq_true h19) rfl (x_p rfl (u_cutt (a := (24 : Int)) (b := (s0_1.length : Int)) rfl Tryd.underlying9 rfl (bT_i (show 0 ≤ (24 : Int) ∧ (24 : Int) ≤ (s0_1.length : Int) ∧ (s0_1.length : Int) ≤ (s0_1.length : Int) from ⟨h25.1, h25.2, Int.le_refl _⟩).1 rfl) (bT_len _) (show 0 ≤ (24 : Int) ∧ (24 : Int) ≤ (s0_1.length : Int) ∧ (s0_1.length : Int) ≤ (s0_1.length : Int) from ⟨h25.1, h25.2, Int.le_refl _⟩)) rfl)) (a_op (g_on rfl rfl rfl (decide_eq_true h19) rfl (x_p rfl (p_callp rfl rfl rfl Tryd.func66 rfl rfl (g_utf8_word_string_ac h26) ⟨rfl, trivial⟩) rfl)) (a_op (g_on rfl rfl rfl (decide_eq_true h19) rfl (x_p rfl (p_u64or (a := r'11) (b := r'12) rfl rfl rfl) rfl)) (a_nil)))))))))))))))))) ?_
            refine t_on rfl rfl rfl rfl (decide_eq_true h19) rfl (PureD.opD (p_u64or (a := r'9 ||| r'10) (b := r'11 ||| r'12) rfl rfl rfl)) ?_
            refine t_on rfl rfl rfl rfl (decide_eq_true h19) rfl (PureD.opD (p_u64and (a := (r'9 ||| r'10) ||| (r'11 ||| r'12)) (b := (9259542123273814144 : UInt64)) rfl rfl rfl)) ?_
            refine t_on rfl rfl rfl rfl (decide_eq_true h19) rfl (PureD.opD (p_u64eq (a := ((r'9 ||| r'10) ||| (r'11 ||| r'12)) &&& (9259542123273814144 : UInt64)) (b := (0 : UInt64)) rfl rfl rfl)) ?_
            refine t_op rfl rfl (PureD.opD (p_pkt rfl rfl (decide_eq_true h19) (.same _))) ?_
            refine t_gho (Gho_st (L := [(0, .t s0_1), (62, .b (decide (((r'9 ||| r'10) ||| (r'11 ||| r'12)) &&& (9259542123273814144 : UInt64) = (0 : UInt64))))]) (H := []) (N := 169) rfl ⟨TLes.same _, TLes.same _, trivial⟩ trivial) ?_
            exact rfl
           ·replace H := ite_else h19 H
            have hz := some_elim H
            subst hz
            refine AW2_ghoQ ?_
            refine AW2_draw 17 [17, 18, 19, 20] (fun k => ([.t s0_1, .i (s0_1.length : Int), .b (decide ((s0_1.length : Int) > (32 : Int))), .b (decide ((s0_1.length : Int) > (32 : Int))), .p (.tup []), .p (.tup []), .p (.tup []), .p (.tup []), .p (.tup []), .p (.tup []), .p (.tup []), .p (.tup []), .p (.tup []), .p (.tup []), .p (.tup []), .p (.tup []), .p (.tup [])] : List TV).getD k TV.any) (fun k => g_utf8_ValidString_r9.getD k []) [(0, none), (45, some 3), (51, some 9), (58, some 16)] [] (fun k => g_utf8_ValidString_r9c.getD k []) mixed (by kernel_rfl) rfl rfl (a_op (g_x rfl (x_p rfl (p_move rfl rfl) rfl)) (a_op (g_x rfl (x_p rfl (p_lent rfl Tryd.underlying9 rfl) rfl)) (a_op (g_x rfl (x_p rfl (p_bin rfl rfl rfl rfl) rfl)) (a_op (g_x rfl (x_p rfl (p_move rfl rfl) rfl)) (a_op (g_off rfl rfl rfl rfl rfl (decide_eq_false h19) rfl rfl) (a_op (g_off rfl rfl rfl rfl rfl (decide_eq_false h19) rfl rfl) (a_op (g_off rfl rfl rfl rfl rfl (decide_eq_false h19) rfl rfl) (a_op (g_off rfl rfl rfl rfl rfl (decide_eq_false h19) rfl rfl) (a_op (g_off rfl rfl rfl rfl rfl (decide_eq_false h19) rfl rfl) (a_op (g_off rfl rfl rfl rfl rfl (decide_eq_false h19) rfl rfl) (a_op (g_off rfl rfl rfl rfl rfl (decide_eq_false h19) rfl rfl) (a_op (g_off rfl rfl rfl rfl rfl (decide_eq_false h19) rfl rfl) (a_op (g_off rfl rfl rfl rfl rfl (decide_eq_false h19) rfl rfl) (a_op (g_off rfl rfl rfl rfl rfl (decide_eq_false h19) rfl rfl) (a_op (g_off rfl rfl rfl rfl rfl (decide_eq_false h19) rfl rfl) (a_op (g_off rfl rfl rfl rfl rfl (decide_eq_false h19) rfl rfl) (a_op (g_off rfl rfl rfl rfl rfl (decide_eq_false h19) rfl rfl) (a_nil)))))))))))))))))) ?_
            refine t_off rfl rfl rfl rfl (decide_eq_false h19) rfl rfl ?_
            refine t_off rfl rfl rfl rfl (decide_eq_false h19) rfl rfl ?_
            refine t_off rfl rfl rfl rfl (decide_eq_false h19) rfl rfl ?_
            refine t_op rfl rfl (PureD.opD (p_pkf rfl rfl (decide_eq_false h19) (.same _))) ?_
            refine t_gho (Gho_st (L := [(0, .t s0_1), (62, .b false)]) (H := []) (N := 169) rfl ⟨TLes.same _, TLes.same _, trivial⟩ trivial) ?_
            exact rfl
          ·refine AW2_cond rfl (fun h28 => ?_) (fun h28 => ?_)
           ·replace H := ite_then h28 H
            refine as2 [(0, .t s0_1)] [] rfl rfl rfl ?_
            refine AW2_skip ?_
            refine AW2_block ?_
            refine AW2_reg [0, 1, 2] rfl ?_
            refine rp rfl rfl (p_move rfl rfl) ?_
            refine chkK H fun h29 H => ?_
            refine rp rfl rfl (u_cutt (a := (32 : Int)) (b := (s0_1.length : Int)) rfl Tryd.underlying9 rfl (bT_i (show 0 ≤ (32 : Int) ∧ (32 : Int) ≤ (s0_1.length : Int) ∧ (s0_1.length : Int) ≤ (s0_1.length : Int) from ⟨h29.1, h29.2, Int.le_refl _⟩).1 rfl) (bT_len _) (show 0 ≤ (32 : Int) ∧ (32 : Int) ≤ (s0_1.length : Int) ∧ (s0_1.length : Int) ≤ (s0_1.length : Int) from ⟨h29.1, h29.2, Int.le_refl _⟩)) ?_
            refine rp rfl rfl (p_asg rfl rfl) ?_
            refine rz [(0, .t (cut s0_1 (32 : Int) (s0_1.length : Int)))] [] rfl rfl rfl ?_
            have hz := some_elim H
            subst hz
            exact ⟨rfl, rfl⟩
           ·replace H := ite_else (ne_true h28) H
            refine as2 [(0, .t s0_1)] [] rfl rfl rfl ?_
            refine AW2_exit ?_
            refine thenQ2_exit ?_
            have hz := some_elim H
            subst hz
            exact ⟨rfl, rfl⟩
         ·obtain ⟨rfl, rfl⟩ := hs
          refine ⟨by simp, ?_⟩
          refine blockQ2_exit ?_
          have hz := some_elim H
          subst hz
          exact rfl
        ·replace H := ite_else (ne_true h17) H
         refine as2 [(0, .t s0'5)] [] rfl rfl rfl ?_
         refine AW2_skip ?_
         have hz := some_elim H
         subst hz
         exact rfl
      ·replace H := ite_else (ne_true h10) H
       refine as2 [(0, .t (cut s0_0 (1 : Int) (s0_0.length : Int)))] [] rfl rfl rfl ?_
       refine AW2_skip ?_
       have hz := some_elim H
       subst hz
       exact rfl
    ·refine as2 [(0, .t j'1)] [] rfl rfl rfl ?_
     refine AW2_exit ?_
     refine thenQ2_exit ?_
     refine blockQ2_exit ?_
     have hz := some_elim H
     subst hz
     exact ⟨rfl, rfl⟩
   ·replace H := ite_else h3 H
    refine as2 [(0, .t s0_0), (3, .p (AV.b8 (lrd s0_0 0)))] [] rfl rfl rfl ?_
    refine AW2_skip ?_
    refine sg [0, 1, 2, 3] rfl ?_
    refine rp rfl rfl (p_move rfl rfl) ?_
    refine chkK H fun h32 H => ?_
    refine rp rfl rfl (u_ixq rfl rfl Tryd.underlying88 in_5 tab1_rd rfl (ixe h32) (ixn h32)) ?_
    refine rp rfl rfl (u_ld rfl rfl Tryd.underlying5 rfl rfl ((Sub.refl _).trans (Sub.map default (ixn h32)))) ?_
    refine rp rfl rfl (p_asg rfl rfl) ?_
    refine rz [(0, .t s0_0), (4, .p (AV.b8 (lrd tab1 (((lrd s0_0 0).toNat : Int).toNat))))] [] rfl rfl rfl ?_
    refine sg [0, 1, 2, 3] rfl ?_
    refine rp rfl rfl (p_move rfl rfl) ?_
    refine rp rfl rfl (p_u8and (a := (lrd tab1 (((lrd s0_0 0).toNat : Int).toNat))) (b := (7 : UInt8)) rfl rfl rfl) ?_
    refine rp rfl rfl (p_ci rfl Tryd.underlying5 Tryd.underlying3 rfl (wrapu8i ((lrd tab1 (((lrd s0_0 0).toNat : Int).toNat)) &&& (7 : UInt8)))) ?_
    refine rp rfl rfl (p_asg rfl rfl) ?_
    refine rz [(0, .t s0_0), (4, .p (AV.b8 (lrd tab1 (((lrd s0_0 0).toNat : Int).toNat)))), (5, .i (((lrd tab1 (((lrd s0_0 0).toNat : Int).toNat)) &&& (7 : UInt8)).toNat : Int))] [] rfl rfl rfl ?_
    refine gen1 (fun size5'18 => (⟨[(0, .t s0_0), (4, .p (AV.b8 (lrd tab1 (((lrd s0_0 0).toNat : Int).toNat)))), (5, .i size5'18)], [], 169⟩ : TS)) H ?_
    intro size5'18 H
    refine sg [0, 1, 2, 3, 4, 5] rfl ?_
    refine rp rfl rfl (p_move rfl rfl) ?_
    refine rp rfl rfl (p_u8shr (n := 4) rfl rfl rfl rfl) ?_
    refine chkK H fun h33 H => ?_
    refine rp rfl rfl (u_ixq rfl rfl Tryd.underlying91 in_90 tab2_rd rfl (ixe h33) (ixn h33)) ?_
    refine rp rfl rfl (u_lda rfl rfl Tryd.underlying90 rfl in_90 rfl (Nat.succ_pos _) ((Sub.refl _).trans (Sub.fm default (fun x => (Gutf8_acceptRange.len x)) (ixn h33))) (Gutf8_acceptRange.len (lrd tab2 (((shr_u8 (lrd tab1 (((lrd s0_0 0).toNat : Int).toNat)) 4).toNat : Int).toNat)))) ?_
    refine r_op rfl rfl (MakeD.opD (u_alloc 6 rfl in_90 one_90 zc_90) rfl rfl rfl rfl) ?_
    refine r_op rfl rfl (u_st rfl rfl rfl rfl rfl in_90 (Gutf8_acceptRange.len (lrd tab2 (((shr_u8 (lrd tab1 (((lrd s0_0 0).toNat : Int).toNat)) 4).toNat : Int).toNat))) (ne_of_lt (n := 0) (Nat.lt_of_lt_of_eq (by decide) (Eq.symm (Gutf8_acceptRange.len Gutf8_acceptRange.zero)))) (Upd.refl ((Gutf8_acceptRange.len (lrd tab2 (((shr_u8 (lrd tab1 (((lrd s0_0 0).toNat : Int).toNat)) 4).toNat : Int).toNat))).trans (Gutf8_acceptRange.len Gutf8_acceptRange.zero).symm))) ?_
    refine rz [(0, .t s0_0), (5, .i size5'18), (6, .q 6 (0))] [(6, .pure (Gutf8_acceptRange.cs (lrd tab2 (((shr_u8 (lrd tab1 (((lrd s0_0 0).toNat : Int).toNat)) 4).toNat : Int).toNat))))] rfl rfl rfl ?_
    refine gen1 (fun accept6'19 => (⟨[(0, .t s0_0), (5, .i size5'18), (6, .q 6 (0))], [(6, .pure (Gutf8_acceptRange.cs accept6'19))], 169⟩ : TS)) H ?_
    intro accept6'19 H
    refine sg [0] rfl ?_
    refine rp rfl rfl (p_move rfl rfl) ?_
    refine rz [(0, .t s0_0), (6, .q 6 (0)), (75, .i size5'18)] [(6, .pure (Gutf8_acceptRange.cs accept6'19))] rfl rfl rfl ?_
    refine AW2_block ?_
    refine sg [0, 1] rfl ?_
    refine rp rfl rfl (p_ieq rfl rfl rfl) ?_
    refine rp rfl rfl (p_asg rfl rfl) ?_
    refine rz [(0, .t s0_0), (6, .q 6 (0)), (75, .i size5'18), (76, .b (decide (size5'18 = (2 : Int))))] [(6, .pure (Gutf8_acceptRange.cs accept6'19))] rfl rfl rfl ?_
    refine AW2_if (p := size5'18 = (2 : Int)) rfl (fun h34 => ?_) (fun h34 => ?_)
    ·replace H := ite_then h34 H
     refine AW2_seq ?_
     refine AW2_seq ?_
     refine bindK H fun g'20 h39 H => ?_
     refine AW2_mid (⟨[(0, .t s0_0), (94, .b g'20)], [], 169⟩ : TS) ?_ ?_
     ·clear H
      have H := h39
      clear h39
      refine (Classical.em ((s0_0.length : Int) < (2 : Int))).elim (fun h35 => ?_) (fun h35 => ?_)
      ·replace H := ite_then h35 H
       have hz := some_elim H
       subst hz
       refine AW2_ghoQ ?_
       refine AW2_draw 15 [15, 16] (fun k => ([.t s0_0, .i (s0_0.length : Int), .b (decide ((s0_0.length : Int) < (2 : Int))), .b (decide ((s0_0.length : Int) < (2 : Int))), .p (.tup []), .p (.tup []), .p (.tup []), .p (.tup []), .p (.tup []), .b true, .b true, .p (.tup []), .p (.tup []), .p (.tup []), .p (.tup [])] : List TV).getD k TV.any) (fun k => g_utf8_ValidString_r17.getD k []) [(0, none), (88, some 10), (90, some 12), (92, some 14)] [] (fun k => g_utf8_ValidString_r17c.getD k []) mixed (by kernel_rfl) rfl rfl (a_op (g_x rfl (x_p rfl (p_move rfl rfl) rfl)) (a_op (g_x rfl (x_p rfl (p_lent rfl Tryd.underlying9 rfl) rfl)) (a_op (g_x rfl (x_p rfl (p_bin rfl rfl rfl rfl) rfl)) (a_op (g_x rfl (x_p rfl (p_move rfl rfl) rfl)) (a_op (g_off rfl rfl rfl rfl rfl (decide_eq_true h35) rfl rfl) (a_op (g_off rfl rfl rfl rfl rfl (decide_eq_true h35) rfl rfl) (a_op (g_off rfl rfl rfl rfl rfl (decide_eq_true h35) rfl rfl) (a_op (g_off rfl rfl rfl rfl rfl (decide_eq_true h35) rfl rfl) (a_op (g_off rfl rfl rfl rfl rfl (decide_eq_true h35) rfl rfl) (a_op (g_x rfl (x_p rfl (p_pkt rfl rfl (decide_eq_true h35) (.same _)) rfl)) (a_op (g_x rfl (x_p rfl (p_move rfl rfl) rfl)) (a_op (g_off rfl rfl rfl rfl rfl rfl rfl rfl) (a_op (g_off rfl rfl rfl rfl rfl rfl rfl rfl) (a_op (g_off rfl rfl rfl rfl rfl rfl rfl rfl) (a_op (g_off rfl rfl rfl rfl rfl rfl rfl rfl) (a_nil)))))))))))))))) ?_
       refine t_off rfl rfl rfl rfl rfl rfl rfl ?_
       refine t_op rfl rfl (PureD.opD (p_pkt rfl rfl rfl (.same _))) ?_
       refine t_gho (Gho_st (L := [(0, .t s0_0), (94, .b true)]) (H := []) (N := 169) rfl ⟨TLes.same _, TLes.same _, trivial⟩ trivial) ?_
       exact rfl
      ·replace H := ite_else h35 H
       refine chkK H fun h36 H => ?_
       refine (Classical.em ((lrd s0_0 1) < accept6'19.lo_)).elim (fun h37 => ?_) (fun h37 => ?_)
       ·replace H := ite_then h37 H
        have hz := some_elim H
        subst hz
        refine AW2_ghoQ ?_
        refine AW2_draw 15 [15, 16] (fun k => ([.t s0_0, .i (s0_0.length : Int), .b (decide ((s0_0.length : Int) < (2 : Int))), .b (decide ((s0_0.length : Int) < (2 : Int))), .t s0_0, .p (AV.b8 (lrd s0_0 1)), .q 6 (0 + 0), .p (AV.b8 accept6'19.lo_), .b (decide ((lrd s0_0 1) < accept6'19.lo_)), .b (decide ((lrd s0_0 1) < accept6'19.lo_)), .b (decide ((lrd s0_0 1) < accept6'19.lo_)), .p (.tup []), .p (.tup []), .p (.tup []), .p (.tup [])] : List TV).getD k TV.any) (fun k => g_utf8_ValidString_r17.getD k []) [(0, none), (88, some 10), (90, some 12), (92, some 14)] [] (fun k => g_utf8_ValidString_r17c.getD k []) mixed (by kernel_rfl) rfl rfl (a_op (g_x rfl (x_p rfl (p_move rfl rfl) rfl)) (a_op (g_x rfl (x_p rfl (p_lent rfl Tryd.underlying9 rfl) rfl)) (a_op (g_x rfl (x_p rfl (p_bin rfl rfl rfl rfl) rfl)) (a_op (g_x rfl (x_p rfl (p_move rfl rfl) rfl)) (a_op (g_on rfl rfl rfl (decide_eq_false h35) rfl (x_p rfl (p_move rfl rfl) rfl)) (a_op (g_on rfl rfl rfl (decide_eq_false h35) rfl (x_p rfl (p_ixt rfl Tryd.underlying9 rfl rfl rfl (lrd_get h36)) rfl)) (a_op (g_on rfl rfl rfl (decide_eq_false h35) rfl (x_p rfl (u_fa rfl rfl Tryd.underlying90 rfl in_5 (Nat.succ_ne_zero _) rfl rfl (ne_of_lt (n := 0) (Nat.lt_of_lt_of_eq (by decide) (Eq.symm (Gutf8_acceptRange.len accept6'19))))) rfl)) (a_op (g_on rfl rfl rfl (decide_eq_false h35) rfl (x_p rfl (u_ld rfl rfl Tryd.underlying5 rfl rfl ((Sub.refl _).trans (Gutf8_acceptRange.sub0 accept6'19))) rfl)) (a_op (g_on rfl rfl rfl (decide_eq_false h35) rfl (x_p rfl (p_u8lt (a := (lrd s0_0 1)) (b := accept6'19.lo_) rfl rfl rfl) rfl)) (a_op (g_x rfl (x_p rfl (p_pkf rfl rfl (decide_eq_false h35) (.same _)) rfl)) (a_op (g_x rfl (x_p rfl (p_move rfl rfl) rfl)) (a_op (g_off rfl rfl rfl rfl rfl (decide_eq_true h37) rfl rfl) (a_op (g_off rfl rfl rfl rfl rfl (decide_eq_true h37) rfl rfl) (a_op (g_off rfl rfl rfl rfl rfl (decide_eq_true h37) rfl rfl) (a_op (g_off rfl rfl rfl rfl rfl (decide_eq_true h37) rfl rfl) (a_nil)))))))))))))))) ?_
        refine t_off rfl rfl rfl rfl (decide_eq_true h37) rfl rfl ?_
        refine t_op rfl rfl (PureD.opD (p_pkt rfl rfl (decide_eq_true h37) (.same _))) ?_
        refine t_gho (Gho_st (L := [(0, .t s0_0), (94, .b true)]) (H := []) (N := 169) rfl ⟨TLes.same _, TLes.same _, trivial⟩ trivial) ?_
        exact rfl
       ·replace H := ite_else h37 H
        refine chkK H fun h38 H => ?_
        have hz := some_elim H
        subst hz
        refine AW2_ghoQ ?_
        refine AW2_draw 15 [15, 16] (fun k => ([.t s0_0, .i (s0_0.length : Int), .b (decide ((s0_0.length : Int) < (2 : Int))), .b (decide ((s0_0.length : Int) < (2 : Int))), .t s0_0, .p (AV.b8 (lrd s0_0 1)), .q 6 (0 + 0), .p (AV.b8 accept6'19.lo_), .b (decide ((lrd s0_0 1) < accept6'19.lo_)), .b (decide ((lrd s0_0 1) < accept6'19.lo_)), .b (decide ((lrd s0_0 1) < accept6'19.lo_)), .q 6 (0 + 1), .p (AV.b8 accept6'19.hi_), .t s0_0, .p (AV.b8 (lrd s0_0 1))] : List TV).getD k TV.any) (fun k => g_utf8_ValidString_r17.getD k []) [(0, none), (88, some 10), (90, some 12), (92, some 14)] [] (fun k => g_utf8_ValidString_r17c.getD k []) mixed (by kernel_rfl) rfl rfl (a_op (g_x rfl (x_p rfl (p_move rfl rfl) rfl)) (a_op (g_x rfl (x_p rfl (p_lent rfl Tryd.underlying9 rfl) rfl)) (a_op (g_x rfl (x_p rfl (p_bin rfl rfl rfl rfl) rfl)) (a_op (g_x rfl (x_p rfl (p_move rfl rfl) rfl)) (a_op (g_on rfl rfl rfl (decide_eq_false h35) rfl (x_p rfl (p_move rfl rfl) rfl)) (a_op (g_on rfl rfl rfl (decide_eq_false h35) rfl (x_p rfl (p_ixt rfl Tryd.underlying9 rfl rfl rfl (lrd_get h36)) rfl)) (a_op (g_on rfl rfl rfl (decide_eq_false h35) rfl (x_p rfl (u_fa rfl rfl Tryd.underlying90 rfl in_5 (Nat.succ_ne_zero _) rfl rfl (ne_of_lt (n := 0) (Nat.lt_of_lt_of_eq (by decide) (Eq.symm (Gutf8_acceptRange.len accept6'19))))) rfl)) (a_op (g_on rfl rfl rfl (decide_eq_false h35) rfl (x_p rfl (u_ld rfl rfl Tryd.underlying5 rfl rfl ((Sub.refl _).trans (Gutf8_acceptRange.sub0 accept6'19))) rfl)) (a_op (g_on rfl rfl rfl (decide_eq_false h35) rfl (x_p rfl (p_u8lt (a := (lrd s0_0 1)) (b := accept6'19.lo_) rfl rfl rfl) rfl)) (a_op (g_x rfl (x_p rfl (p_pkf rfl rfl (decide_eq_false h35) (.same _)) rfl)) (a_op (g_x rfl (x_p rfl (p_move rfl rfl) rfl)) (a_op (g_on rfl rfl rfl (decide_eq_false h37) rfl (x_p rfl (u_fa rfl rfl Tryd.underlying90 rfl in_5 (Nat.succ_ne_zero _) rfl rfl (ne_of_lt (n := 0) (Nat.lt_of_lt_of_eq (by decide) (Eq.symm (Gutf8_acceptRange.len accept6'19))))) rfl)) (a_op (g_on rfl rfl rfl (decide_eq_false h37) rfl (x_p rfl (u_ld rfl rfl Tryd.underlying5 rfl rfl ((Sub.refl _).trans (Gutf8_acceptRange.sub1 accept6'19))) rfl)) (a_op (g_on rfl rfl rfl (decide_eq_false h37) rfl (x_p rfl (p_move rfl rfl) rfl)) (a_op (g_on rfl rfl rfl (decide_eq_false h37) rfl (x_p rfl (p_ixt rfl Tryd.underlying9 rfl rfl rfl (lrd_get h38)) rfl)) (a_nil)))))))))))))))) ?_
        refine t_on rfl rfl rfl rfl (decide_eq_false h37) rfl (PureD.opD (p_u8lt (a := accept6'19.hi_) (b := (lrd s0_0 1)) rfl rfl rfl)) ?_
        refine t_op rfl rfl (PureD.opD (p_pkf rfl rfl (decide_eq_false h37) (.same _))) ?_
        refine t_gho (Gho_st (L := [(0, .t s0_0), (94, .b (decide (accept6'19.hi_ < (lrd s0_0 1))))]) (H := []) (N := 169) rfl ⟨TLes.same _, TLes.same _, trivial⟩ trivial) ?_
        exact rfl
     ·refine AW2_cond rfl (fun h40 => ?_) (fun h40 => ?_)
      ·replace H := ite_then h40 H
       refine sg [0] rfl ?_
       refine rp rfl rfl (p_asg rfl rfl) ?_
       refine rz [(2, .b false)] [] rfl rfl rfl ?_
       refine AW2_ret ?_
       have hz := some_elim H
       subst hz
       exact ⟨rfl, ⟨res_tmp (.same _), trivial⟩, trivial⟩
      ·replace H := ite_else (ne_true h40) H
       refine as2 [(0, .t s0_0)] [] rfl rfl rfl ?_
       refine AW2_skip ?_
       refine AW2_reg [0, 1, 2] rfl ?_
       refine rp rfl rfl (p_move rfl rfl) ?_
       refine chkK H fun h41 H => ?_
       refine rp rfl rfl (u_cutt (a := (2 : Int)) (b := (s0_0.length : Int)) rfl Tryd.underlying9 rfl (bT_i (show 0 ≤ (2 : Int) ∧ (2 : Int) ≤ (s0_0.length : Int) ∧ (s0_0.length : Int) ≤ (s0_0.length : Int) from ⟨h41.1, h41.2, Int.le_refl _⟩).1 rfl) (bT_len _) (show 0 ≤ (2 : Int) ∧ (2 : Int) ≤ (s0_0.length : Int) ∧ (s0_0.length : Int) ≤ (s0_0.length : Int) from ⟨h41.1, h41.2, Int.le_refl _⟩)) ?_
       refine rp rfl rfl (p_asg rfl rfl) ?_
       refine rz [(0, .t (cut s0_0 (2 : Int) (s0_0.length : Int)))] [] rfl rfl rfl ?_
       have hz := some_elim H
       subst hz
       exact ⟨rfl, rfl⟩
    ·replace H := ite_else h34 H
     refine sg [0, 1] rfl ?_
     refine rp rfl rfl (p_ieq rfl rfl rfl) ?_
     refine rp rfl rfl (p_asg rfl rfl) ?_
     refine rz [(0, .t s0_0), (6, .q 6 (0)), (75, .i size5'18), (97, .b (decide (size5'18 = (3 : Int))))] [(6, .pure (Gutf8_acceptRange.cs accept6'19))] rfl rfl rfl ?_
     refine AW2_if (p := size5'18 = (3 : Int)) rfl (fun h42 => ?_) (fun h42 => ?_)
     ·replace H := ite_then h42 H
      refine AW2_seq ?_
      refine AW2_seq ?_
      refine bindK H fun g'21 h51 H => ?_
      refine AW2_mid (⟨[(0, .t s0_0), (125, .b g'21)], [], 169⟩ : TS) ?_ ?_
      ·clear H
       have H := h51
       clear h51
       refine (Classical.em ((s0_0.length : Int) < (3 : Int))).elim (fun h43 => ?_) (fun h43 => ?_)
       ·replace H := ite_then h43 H
        have hz := some_elim H
        subst hz
        refine AW2_ghoQ ?_
        refine AW2_draw 15 [15, 16, 17, 18, 19, 20, 21, 22, 23, 24, 25, 26] (fun k => ([.t s0_0, .i (s0_0.length : Int), .b (decide ((s0_0.length : Int) < (3 : Int))), .b (decide ((s0_0.length : Int) < (3 : Int))), .p (.tup []), .p (.tup []), .p (.tup []), .p (.tup []), .p (.tup []), .b true, .b true, .p (.tup []), .p (.tup []), .p (.tup []), .p (.tup [])] : List TV).getD k TV.any) (fun k => g_utf8_ValidString_r21.getD k []) [(0, none), (109, some 10), (111, some 12), (113, some 14)] [] (fun k => g_utf8_ValidString_r21c.getD k []) mixed (by kernel_rfl) rfl rfl (a_op (g_x rfl (x_p rfl (p_move rfl rfl) rfl)) (a_op (g_x rfl (x_p rfl (p_lent rfl Tryd.underlying9 rfl) rfl)) (a_op (g_x rfl (x_p rfl (p_bin rfl rfl rfl rfl) rfl)) (a_op (g_x rfl (x_p rfl (p_move rfl rfl) rfl)) (a_op (g_off rfl rfl rfl rfl rfl (decide_eq_true h43) rfl rfl) (a_op (g_off rfl rfl rfl rfl rfl (decide_eq_true h43) rfl rfl) (a_op (g_off rfl rfl rfl rfl rfl (decide_eq_true h43) rfl rfl) (a_op (g_off rfl rfl rfl rfl rfl (decide_eq_true h43) rfl rfl) (a_op (g_off rfl rfl rfl rfl rfl (decide_eq_true h43) rfl rfl) (a_op (g_x rfl (x_p rfl (p_pkt rfl rfl (decide_eq_true h43) (.same _)) rfl)) (a_op (g_x rfl (x_p rfl (p_move rfl rfl) rfl)) (a_op (g_off rfl rfl rfl rfl rfl rfl rfl rfl) (a_op (g_off rfl rfl rfl rfl rfl rfl rfl rfl) (a_op (g_off rfl rfl rfl rfl rfl rfl rfl rfl) (a_op (g_off rfl rfl rfl rfl rfl rfl rfl rfl) (a_nil)))))))))))))))) ?_
        refine t_off rfl rfl rfl rfl rfl rfl rfl ?_
        refine t_op rfl rfl (PureD.opD (p_pkt rfl rfl rfl (.same _))) ?_
        refine t_op rfl rfl (PureD.opD (p_move rfl rfl)) ?_
        refine t_off rfl rfl rfl rfl rfl rfl rfl ?_
        refine t_off rfl rfl rfl rfl rfl rfl rfl ?_
        refine t_off rfl rfl rfl rfl rfl rfl rfl ?_
        refine t_op rfl rfl (PureD.opD (p_pkt rfl rfl rfl (.same _))) ?_
        refine t_op rfl rfl (PureD.opD (p_move rfl rfl)) ?_
        refine t_off rfl rfl rfl rfl rfl rfl rfl ?_
        refine t_off rfl rfl rfl rfl rfl rfl rfl ?_
        refine t_off rfl rfl rfl rfl rfl rfl rfl ?_
        refine t_op rfl rfl (PureD.opD (p_pkt rfl rfl rfl (.same _))) ?_
        refine t_gho (Gho_st (L := [(0, .t s0_0), (125, .b true)]) (H := []) (N := 169) rfl ⟨TLes.same _, TLes.same _, trivial⟩ trivial) ?_
        exact rfl
       ·replace H := ite_else h43 H
        refine chkK H fun h44 H => ?_
        refine (Classical.em ((lrd s0_0 1) < accept6'19.lo_)).elim (fun h45 => ?_) (fun h45 => ?_)
        ·replace H := ite_then h45 H
         have hz := some_elim H
         subst hz
         refine AW2_ghoQ ?_
         refine AW2_draw 15 [15, 16, 17, 18, 19, 20, 21, 22, 23, 24, 25, 26] (fun k => ([.t s0_0, .i (s0_0.length : Int), .b (decide ((s0_0.length : Int) < (3 : Int))), .b (decide ((s0_0.length : Int) < (3 : Int))), .t s0_0, .p (AV.b8 (lrd s0_0 1)), .q 6 (0 + 0), .p (AV.b8 accept6'19.lo_), .b (decide ((lrd s0_0 1) < accept6'19.lo_)), .b (decide ((lrd s0_0 1) < accept6'19.lo_)), .b (decide ((lrd s0_0 1) < accept6'19.lo_)), .p (.tup []), .p (.tup []), .p (.tup []), .p (.tup [])] : List TV).getD k TV.any) (fun k => g_utf8_ValidString_r21.getD k []) [(0, none), (109, some 10), (111, some 12), (113, some 14)] [] (fun k => g_utf8_ValidString_r21c.getD k []) mixed (by kernel_rfl) rfl rfl (a_op (g_x rfl (x_p rfl (p_move rfl rfl) rfl)) (a_op (g_x rfl (x_p rfl (p_lent rfl Tryd.underlying9 rfl) rfl)) (a_op (g_x rfl (x_p rfl (p_bin rfl rfl rfl rfl) rfl)) (a_op (g_x rfl (x_p rfl (p_move rfl rfl) rfl)) (a_op (g_on rfl rfl rfl (decide_eq_false h43) rfl (x_p rfl (p_move rfl rfl) rfl)) (a_op (g_on rfl rfl rfl (decide_eq_false h43) rfl (x_p rfl (p_ixt rfl Tryd.underlying9 rfl rfl rfl (lrd_get h44)) rfl)) (a_op (g_on rfl rfl rfl (decide_eq_false h43) rfl (x_p rfl (u_fa rfl rfl Tryd.underlying90 rfl in_5 (Nat.succ_ne_zero _) rfl rfl (ne_of_lt (n := 0) (Nat.lt_of_lt_of_eq (by decide) (Eq.symm (Gutf8_acceptRange.len accept6'19))))) rfl)) (a_op (g_on rfl rfl rfl (decide_eq_false h43) rfl (x_p rfl (u_ld rfl rfl Tryd.underlying5 rfl rfl ((Sub.refl _).trans (Gutf8_acceptRange.sub0 accept6'19))) rfl)) (a_op (g_on rfl rfl rfl (decide_eq_false h43) rfl (x_p rfl (p_u8lt (a := (lrd s0_0 1)) (b := accept6'19.lo_) rfl rfl rfl) rfl)) (a_op (g_x rfl (x_p rfl (p_pkf rfl rfl (decide_eq_false h43) (.same _)) rfl)) (a_op (g_x rfl (x_p rfl (p_move rfl rfl) rfl)) (a_op (g_off rfl rfl rfl rfl rfl (decide_eq_true h45) rfl rfl) (a_op (g_off rfl rfl rfl rfl rfl (decide_eq_true h45) rfl rfl) (a_op (g_off rfl rfl rfl rfl rfl (decide_eq_true h45) rfl rfl) (a_op (g_off rfl rfl rfl rfl rfl (decide_eq_true h45) rfl rfl) (a_nil)))))))))))))))) ?_
         refine t_off rfl rfl rfl rfl (decide_eq_true h45) rfl rfl ?_
         refine t_op rfl rfl (PureD.opD (p_pkt rfl rfl (decide_eq_true h45) (.same _))) ?_
         refine t_op rfl rfl (PureD.opD (p_move rfl rfl)) ?_
         refine t_off rfl rfl rfl rfl rfl rfl rfl ?_
         refine t_off rfl rfl rfl rfl rfl rfl rfl ?_
         refine t_off rfl rfl rfl rfl rfl rfl rfl ?_
         refine t_op rfl rfl (PureD.opD (p_pkt rfl rfl rfl (.same _))) ?_
         refine t_op rfl rfl (PureD.opD (p_move rfl rfl)) ?_
         refine t_off rfl rfl rfl rfl rfl rfl rfl ?_
         refine t_off rfl rfl rfl rfl rfl rfl rfl ?_
         refine t_off rfl rfl rfl rfl rfl rfl rfl ?_
         refine t_op rfl rfl (PureD.opD (p_pkt rfl rfl rfl (.same _))) ?_
         refine t_gho (Gho_st (L := [(0, .t s0_0), (125, .b true)]) (H := []) (N := 169) rfl ⟨TLes.same _, TLes.same _, trivial⟩ trivial) ?_
         exact rfl
        ·replace H := ite_else h45 H
         refine chkK H fun h46 H => ?_
         refine (Classical.em (accept6'19.hi_ < (lrd s0_0 1))).elim (fun h47 => ?_) (fun h47 => ?_)
         ·replace H := ite_then h47 H
          have hz := some_elim H
          subst hz
          refine AW2_ghoQ ?_
          refine AW2_draw 15 [15, 16, 17, 18, 19, 20, 21, 22, 23, 24, 25, 26] (fun k => ([.t s0_0, .i (s0_0.length : Int), .b (decide ((s0_0.length : Int) < (3 : Int))), .b (decide ((s0_0.length : Int) < (3 : Int))), .t s0_0, .p (AV.b8 (lrd s0_0 1)), .q 6 (0 + 0), .p (AV.b8 accept6'19.lo_), .b (decide ((lrd s0_0 1) < accept6'19.lo_)), .b (decide ((lrd s0_0 1) < accept6'19.lo_)), .b (decide ((lrd s0_0 1) < accept6'19.lo_)), .q 6 (0 + 1), .p (AV.b8 accept6'19.hi_), .t s0_0, .p (AV.b8 (lrd s0_0 1))] : List TV).getD k TV.any) (fun k => g_utf8_ValidString_r21.getD k []) [(0, none), (109, some 10), (111, some 12), (113, some 14)] [] (fun k => g_utf8_ValidString_r21c.getD k []) mixed (by kernel_rfl) rfl rfl (a_op (g_x rfl (x_p rfl (p_move rfl rfl) rfl)) (a_op (g_x rfl (x_p rfl (p_lent rfl Tryd.underlying9 rfl) rfl)) (a_op (g_x rfl (x_p rfl (p_bin rfl rfl rfl rfl) rfl)) (a_op (g_x rfl (x_p rfl (p_move rfl rfl) rfl)) (a_op (g_on rfl rfl rfl (decide_eq_false h43) rfl (x_p rfl (p_move rfl rfl) rfl)) (a_op (g_on rfl rfl rfl (decide_eq_false h43) rfl (x_p rfl (p_ixt rfl Tryd.underlying9 rfl rfl rfl (lrd_get h44)) rfl)) (a_op (g_on rfl rfl rfl (decide_eq_false h43) rfl (x_p rfl (u_fa rfl rfl Tryd.underlying90 rfl in_5 (Nat.succ_ne_zero _) rfl rfl (ne_of_lt (n := 0) (Nat.lt_of_lt_of_eq (by decide) (Eq.symm (Gutf8_acceptRange.len accept6'19))))) rfl)) (a_op (g_on rfl rfl rfl (decide_eq_false h43) rfl (x_p rfl (u_ld rfl rfl Tryd.underlying5 rfl rfl ((Sub.refl _).trans (Gutf8_acceptRange.sub0 accept6'19))) rfl)) (a_op (g_on rfl rfl rfl (decide_eq_false h43) rfl (x_p rfl (p_u8lt (a := (lrd s0_0 1)) (b := accept6'19.lo_) rfl rfl rfl) rfl)) (a_op (g_x rfl (x_p rfl (p_pkf rfl rfl (decide_eq_false h43) (.same _)) rfl)) (a_op (g_x rfl (x_p rfl (p_move rfl rfl) rfl)) (a_op (g_on rfl rfl rfl (decide_eq_false h45) rfl (x_p rfl (u_fa rfl rfl Tryd.underlying90 rfl in_5 (Nat.succ_ne_zero _) rfl rfl (ne_of_lt (n := 0) (Nat.lt_of_lt_of_eq (by decide) (Eq.symm (Gutf8_acceptRange.len accept6'19))))) rfl)) (a_op (g_on rfl rfl rfl (decide_eq_false h45) rfl (x_p rfl (u_ld rfl rfl Tryd.underlying5 rfl rfl ((Sub.refl _).trans (Gutf8_acceptRange.sub1 accept6'19))) rfl)) (a_op (g_on rfl rfl rfl (decide_eq_false h45) rfl (x_p rfl (p_move rfl rfl) rfl)) (a_op (g_on rfl rfl rfl (decide_eq_false h45) rfl (x_p rfl (p_ixt rfl Tryd.underlying9 rfl rfl rfl (lrd_get h46)) rfl)) (a_nil)))))))))))))))) ?_
          refine t_on rfl rfl rfl rfl (decide_eq_false h45) rfl (PureD.opD (p_u8lt (a := accept6'19.hi_) (b := (lrd s0_0 1)) rfl rfl rfl)) ?_
          refine t_op rfl rfl (PureD.opD (p_pkf rfl rfl (decide_eq_false h45) (.same _))) ?_
          refine t_op rfl rfl (PureD.opD (p_move rfl rfl)) ?_
          refine t_off rfl rfl rfl rfl (decide_eq_true h47) rfl rfl ?_
          refine t_off rfl rfl rfl rfl (decide_eq_true h47) rfl rfl ?_
          refine t_off rfl rfl rfl rfl (decide_eq_true h47) rfl rfl ?_
          refine t_op rfl rfl (PureD.opD (p_pkt rfl rfl (decide_eq_true h47) (.same _))) ?_
          refine t_op rfl rfl (PureD.opD (p_move rfl rfl)) ?_
          refine t_off rfl rfl rfl rfl rfl rfl rfl ?_
          refine t_off rfl rfl rfl rfl rfl rfl rfl ?_
          refine t_off rfl rfl rfl rfl rfl rfl rfl ?_
          refine t_op rfl rfl (PureD.opD (p_pkt rfl rfl rfl (.same _))) ?_
          refine t_gho (Gho_st (L := [(0, .t s0_0), (125, .b true)]) (H := []) (N := 169) rfl ⟨TLes.same _, TLes.same _, trivial⟩ trivial) ?_
          exact rfl
         ·replace H := ite_else h47 H
          refine chkK H fun h48 H => ?_
          refine (Classical.em ((lrd s0_0 2) < (128 : UInt8))).elim (fun h49 => ?_) (fun h49 => ?_)
          ·replace H := ite_then h49 H
           have hz := some_elim H
           subst hz
           refine AW2_ghoQ ?_
           refine AW2_draw 15 [15, 16, 17, 18, 19, 20, 21, 22, 23, 24, 25, 26] (fun k => ([.t s0_0, .i (s0_0.length : Int), .b (decide ((s0_0.length : Int) < (3 : Int))), .b (decide ((s0_0.length : Int) < (3 : Int))), .t s0_0, .p (AV.b8 (lrd s0_0 1)), .q 6 (0 + 0), .p (AV.b8 accept6'19.lo_), .b (decide ((lrd s0_0 1) < accept6'19.lo_)), .b (decide ((lrd s0_0 1) < accept6'19.lo_)), .b (decide ((lrd s0_0 1) < accept6'19.lo_)), .q 6 (0 + 1), .p (AV.b8 accept6'19.hi_), .t s0_0, .p (AV.b8 (lrd s0_0 1))] : List TV).getD k TV.any) (fun k => g_utf8_ValidString_r21.getD k []) [(0, none), (109, some 10), (111, some 12), (113, some 14)] [] (fun k => g_utf8_ValidString_r21c.getD k []) mixed (by kernel_rfl) rfl rfl (a_op (g_x rfl (x_p rfl (p_move rfl rfl) rfl)) (a_op (g_x rfl (x_p rfl (p_lent rfl Tryd.underlying9 rfl) rfl)) (a_op (g_x rfl (x_p rfl (p_bin rfl rfl rfl rfl) rfl)) (a_op (g_x rfl (x_p rfl (p_move rfl rfl) rfl)) (a_op (g_on rfl rfl rfl (decide_eq_false h43) rfl (x_p rfl (p_move rfl rfl) rfl)) (a_op (g_on rfl rfl rfl (decide_eq_false h43) rfl (x_p rfl (p_ixt rfl Tryd.underlying9 rfl rfl rfl (lrd_get h44)) rfl)) (a_op (g_on rfl rfl rfl (decide_eq_false h43) rfl (x_p rfl (u_fa rfl rfl Tryd.underlying90 rfl in_5 (Nat.succ_ne_zero _) rfl rfl (ne_of_lt (n := 0) (Nat.lt_of_lt_of_eq (by decide) (Eq.symm (Gutf8_acceptRange.len accept6'19))))) rfl)) (a_op (g_on rfl rfl rfl (decide_eq_false h43) rfl (x_p rfl (u_ld rfl rfl Tryd.underlying5 rfl rfl ((Sub.refl _).trans (Gutf8_acceptRange.sub0 accept6'19))) rfl)) (a_op (g_on rfl rfl rfl (decide_eq_false h43) rfl (x_p rfl (p_u8lt (a := (lrd s0_0 1)) (b := accept6'19.lo_) rfl rfl rfl) rfl)) (a_op (g_x rfl (x_p rfl (p_pkf rfl rfl (decide_eq_false h43) (.same _)) rfl)) (a_op (g_x rfl (x_p rfl (p_move rfl rfl) rfl)) (a_op (g_on rfl rfl rfl (decide_eq_false h45) rfl (x_p rfl (u_fa rfl rfl Tryd.underlying90 rfl in_5 (Nat.succ_ne_zero _) rfl rfl (ne_of_lt (n := 0) (Nat.lt_of_lt_of_eq (by decide) (Eq.symm (Gutf8_acceptRange.len accept6'19))))) rfl)) (a_op (g_on rfl rfl rfl (decide_eq_false h45) rfl (x_p rfl (u_ld rfl rfl Tryd.underlying5 rfl rfl ((Sub.refl _).trans (Gutf8_acceptRange.sub1 accept6'19))) rfl)) (a_op (g_on rfl rfl rfl (decide_eq_false h45) rfl (x_p rfl (p_move rfl rfl) rfl)) (a_op (g_on rfl rfl rfl (decide_eq_false h45) rfl (x_p rfl (p_ixt rfl Tryd.underlying9 rfl rfl rfl (lrd_get h46)) rfl)) (a_nil)))))))))))))))) ?_
           refine t_on rfl rfl rfl rfl (decide_eq_false h45) rfl (PureD.opD (p_u8lt (a := accept6'19.hi_) (b := (lrd s0_0 1)) rfl rfl rfl)) ?_
           refine t_op rfl rfl (PureD.opD (p_pkf rfl rfl (decide_eq_false h45) (.same _))) ?_
           refine t_op rfl rfl (PureD.opD (p_move rfl rfl)) ?_
           refine t_on rfl rfl rfl rfl (decide_eq_false h47) rfl (PureD.opD (p_move rfl rfl)) ?_
           refine t_on rfl rfl rfl rfl (decide_eq_false h47) rfl (PureD.opD (p_ixt rfl Tryd.underlying9 rfl rfl rfl (lrd_get h48))) ?_
           refine t_on rfl rfl rfl rfl (decide_eq_false h47) rfl (PureD.opD (p_u8lt (a := (lrd s0_0 2)) (b := (128 : UInt8)) rfl rfl rfl)) ?_
           refine t_op rfl rfl (PureD.opD (p_pkf rfl rfl (decide_eq_false h47) (.same _))) ?_
           refine t_op rfl rfl (PureD.opD (p_move rfl rfl)) ?_
           refine t_off rfl rfl rfl rfl (decide_eq_true h49) rfl rfl ?_
           refine t_off rfl rfl rfl rfl (decide_eq_true h49) rfl rfl ?_
           refine t_off rfl rfl rfl rfl (decide_eq_true h49) rfl rfl ?_
           refine t_op rfl rfl (PureD.opD (p_pkt rfl rfl (decide_eq_true h49) (.same _))) ?_
           refine t_gho (Gho_st (L := [(0, .t s0_0), (125, .b true)]) (H := []) (N := 169) rfl ⟨TLes.same _, TLes.same _, trivial⟩ trivial) ?_
           exact rfl
          ·replace H := ite_else h49 H
           refine chkK H fun h50 H => ?_
           have hz := some_elim H
           subst hz
           refine AW2_ghoQ ?_
           refine AW2_draw 15 [15, 16, 17, 18, 19, 20, 21, 22, 23, 24, 25, 26] (fun k => ([.t s0_0, .i (s0_0.length : Int), .b (decide ((s0_0.length : Int) < (3 : Int))), .b (decide ((s0_0.length : Int) < (3 : Int))), .t s0_0, .p (AV.b8 (lrd s0_0 1)), .q 6 (0 + 0), .p (AV.b8 accept6'19.lo_), .b (decide ((lrd s0_0 1) < accept6'19.lo_)), .b (decide ((lrd s0_0 1) < accept6'19.lo_)), .b (decide ((lrd s0_0 1) < accept6'19.lo_)), .q 6 (0 + 1), .p (AV.b8 accept6'19.hi_), .t s0_0, .p (AV.b8 (lrd s0_0 1))] : List TV).getD k TV.any) (fun k => g_utf8_ValidString_r21.getD k []) [(0, none), (109, some 10), (111, some 12), (113, some 14)] [] (fun k => g_utf8_ValidString_r21c.getD k []) mixed (by kernel_rfl) rfl rfl (a_op (g_x rfl (x_p rfl (p_move rfl rfl) rfl)) (a_op (g_x rfl (x_p rfl (p_lent rfl Tryd.underlying9 rfl) rfl)) (a_op (g_x rfl (x_p rfl (p_bin rfl rfl rfl rfl) rfl)) (a_op (g_x rfl (x_p rfl (p_move rfl rfl) rfl)) (a_op (g_on rfl rfl rfl (decide_eq_false h43) rfl (x_p rfl (p_move rfl rfl) rfl)) (a_op (g_on rfl rfl rfl (decide_eq_false h43) rfl (x_p rfl (p_ixt rfl Tryd.underlying9 rfl rfl rfl (lrd_get h44)) rfl)) (a_op (g_on rfl rfl rfl (decide_eq_false h43) rfl (x_p rfl (u_fa rfl rfl Tryd.underlying90 rfl in_5 (Nat.succ_ne_zero _) rfl rfl (ne_of_lt (n := 0) (Nat.lt_of_lt_of_eq (by decide) (Eq.symm (Gutf8_acceptRange.len accept6'19))))) rfl)) (a_op (g_on rfl rfl rfl (decide_eq_false h43) rfl (x_p rfl (u_ld rfl rfl Tryd.underlying5 rfl rfl ((Sub.refl _).trans (Gutf8_acceptRange.sub0 accept6'19))) rfl)) (a_op (g_on rfl rfl rfl (decide_eq_false h43) rfl (x_p rfl (p_u8lt (a := (lrd s0_0 1)) (b := accept6'19.lo_) rfl rfl rfl) rfl)) (a_op (g_x rfl (x_p rfl (p_pkf rfl rfl (decide_eq_false h43) (.same _)) rfl)) (a_op (g_x rfl (x_p rfl (p_move rfl rfl) rfl)) (a_op (g_on rfl rfl rfl (decide_eq_false h45) rfl (x_p rfl (u_fa rfl rfl Tryd.underlying90 rfl in_5 (Nat.succ_ne_zero _) rfl rfl (ne_of_lt (n := 0) (Nat.lt_of_lt_of_eq (by decide) (Eq.symm (Gutf8_acceptRange.len accept6'19))))) rfl)) (a_op (g_on rfl rfl rfl (decide_eq_false h45) rfl (x_p rfl (u_ld rfl rfl Tryd.underlying5 rfl rfl ((Sub.refl _).trans (Gutf8_acceptRange.sub1 accept6'19))) rfl)) (a_op (g_on rfl rfl rfl (decide_eq_false h45) rfl (x_p rfl (p_move rfl rfl) rfl)) (a_op (g_on rfl rfl rfl (decide_eq_false h45) rfl (x_p rfl (p_ixt rfl Tryd.underlying9 rfl rfl rfl (lrd_get h46)) rfl)) (a_nil)))))))))))))))) ?_
           refine t_on rfl rfl rfl rfl (decide_eq_false h45) rfl (PureD.opD (p_u8lt (a := accept6'19.hi_) (b := (lrd s0_0 1)) rfl rfl rfl)) ?_
           refine t_op rfl rfl (PureD.opD (p_pkf rfl rfl (decide_eq_false h45) (.same _))) ?_
           refine t_op rfl rfl (PureD.opD (p_move rfl rfl)) ?_
           refine t_on rfl rfl rfl rfl (decide_eq_false h47) rfl (PureD.opD (p_move rfl rfl)) ?_
           refine t_on rfl rfl rfl rfl (decide_eq_false h47) rfl (PureD.opD (p_ixt rfl Tryd.underlying9 rfl rfl rfl (lrd_get h48))) ?_
           refine t_on rfl rfl rfl rfl (decide_eq_false h47) rfl (PureD.opD (p_u8lt (a := (lrd s0_0 2)) (b := (128 : UInt8)) rfl rfl rfl)) ?_
           refine t_op rfl rfl (PureD.opD (p_pkf rfl rfl (decide_eq_false h47) (.same _))) ?_
           refine t_op rfl rfl (PureD.opD (p_move rfl rfl)) ?_
           refine t_on rfl rfl rfl rfl (decide_eq_false h49) rfl (PureD.opD (p_move rfl rfl)) ?_
           refine t_on rfl rfl rfl rfl (decide_eq_false h49) rfl (PureD.opD (p_ixt rfl Tryd.underlying9 rfl rfl rfl (lrd_get h50))) ?_
           refine t_on rfl rfl rfl rfl (decide_eq_false h49) rfl (PureD.opD (p_u8lt (a := (191 : UInt8)) (b := (lrd s0_0 2)) rfl rfl rfl)) ?_
           refine t_op rfl rfl (PureD.opD (p_pkf rfl rfl (decide_eq_false h49) (.same _))) ?_
           refine t_gho (Gho_st (L := [(0, .t s0_0), (125, .b (decide ((191 : UInt8) < (lrd s0_0 2))))]) (H := []) (N := 169) rfl ⟨TLes.same _, TLes.same _, trivial⟩ trivial) ?_
           exact rfl
      ·refine AW2_cond rfl (fun h52 => ?_) (fun h52 => ?_)
       ·replace H := ite_then h52 H
        refine sg [0] rfl ?_
        refine rp rfl rfl (p_asg rfl rfl) ?_
        refine rz [(2, .b false)] [] rfl rfl rfl ?_
        refine AW2_ret ?_
        have hz := some_elim H
        subst hz
        exact ⟨rfl, ⟨res_tmp (.same _), trivial⟩, trivial⟩
       ·replace H := ite_else (ne_true h52) H
        refine as2 [(0, .t s0_0)] [] rfl rfl rfl ?_
        refine AW2_skip ?_
        refine AW2_reg [0, 1, 2] rfl ?_
        refine rp rfl rfl (p_move rfl rfl) ?_
        refine chkK H fun h53 H => ?_
        refine rp rfl rfl (u_cutt (a := (3 : Int)) (b := (s0_0.length : Int)) rfl Tryd.underlying9 rfl (bT_i (show 0 ≤ (3 : Int) ∧ (3 : Int) ≤ (s0_0.length : Int) ∧ (s0_0.length : Int) ≤ (s0_0.length : Int) from ⟨h53.1, h53.2, Int.le_refl _⟩).1 rfl) (bT_len _) (show 0 ≤ (3 : Int) ∧ (3 : Int) ≤ (s0_0.length : Int) ∧ (s0_0.length : Int) ≤ (s0_0.length : Int) from ⟨h53.1, h53.2, Int.le_refl _⟩)) ?_
        refine rp rfl rfl (p_asg rfl rfl) ?_
        refine rz [(0, .t (cut s0_0 (3 : Int) (s0_0.length : Int)))] [] rfl rfl rfl ?_
        have hz := some_elim H
        subst hz
        exact ⟨rfl, rfl⟩
     ·replace H := ite_else h42 H
      refine sg [0, 1] rfl ?_
      refine rp rfl rfl (p_ieq rfl rfl rfl) ?_
      refine rp rfl rfl (p_asg rfl rfl) ?_
      refine rz [(0, .t s0_0), (6, .q 6 (0)), (128, .b (decide (size5'18 = (4 : Int))))] [(6, .pure (Gutf8_acceptRange.cs accept6'19))] rfl rfl rfl ?_
      refine AW2_if (p := size5'18 = (4 : Int)) rfl (fun h54 => ?_) (fun h54 => ?_)
      ·replace H := ite_then h54 H
       refine AW2_seq ?_
       refine AW2_seq ?_
       refine bindK H fun g'22 h67 H => ?_
       refine AW2_mid (⟨[(0, .t s0_0), (166, .b g'22)], [], 169⟩ : TS) ?_ ?_
       ·clear H
        have H := h67
        clear h67
        refine (Classical.em ((s0_0.length : Int) < (4 : Int))).elim (fun h55 => ?_) (fun h55 => ?_)
        ·replace H := ite_then h55 H
         have hz := some_elim H
         subst hz
         refine AW2_ghoQ ?_
         refine AW2_draw 15 [15, 16, 17, 18, 19, 20, 21, 22, 23, 24, 25, 26, 27, 28, 29, 30, 31, 32, 33, 34, 35, 36] (fun k => ([.t s0_0, .i (s0_0.length : Int), .b (decide ((s0_0.length : Int) < (4 : Int))), .b (decide ((s0_0.length : Int) < (4 : Int))), .p (.tup []), .p (.tup []), .p (.tup []), .p (.tup []), .p (.tup []), .b true, .b true, .p (.tup []), .p (.tup []), .p (.tup []), .p (.tup [])] : List TV).getD k TV.any) (fun k => g_utf8_ValidString_r25.getD k []) [(0, none), (140, some 10), (142, some 12), (144, some 14)] [] (fun k => g_utf8_ValidString_r25c.getD k []) mixed (by kernel_rfl) rfl rfl (a_op (g_x rfl (x_p rfl (p_move rfl rfl) rfl)) (a_op (g_x rfl (x_p rfl (p_lent rfl Tryd.underlying9 rfl) rfl)) (a_op (g_x rfl (x_p rfl (p_bin rfl rfl rfl rfl) rfl)) (a_op (g_x rfl (x_p rfl (p_move rfl rfl) rfl)) (a_op (g_off rfl rfl rfl rfl rfl (decide_eq_true h55) rfl rfl) (a_op (g_off rfl rfl rfl rfl rfl (decide_eq_true h55) rfl rfl) (a_op (g_off rfl rfl rfl rfl rfl (decide_eq_true h55) rfl rfl) (a_op (g_off rfl rfl rfl rfl rfl (decide_eq_true h55) rfl rfl) (a_op (g_off rfl rfl rfl rfl rfl (decide_eq_true h55) rfl rfl) (a_op (g_x rfl (x_p rfl (p_pkt rfl rfl (decide_eq_true h55) (.same _)) rfl)) (a_op (g_x rfl (x_p rfl (p_move rfl rfl) rfl)) (a_op (g_off rfl rfl rfl rfl rfl rfl rfl rfl) (a_op (g_off rfl rfl rfl rfl rfl rfl rfl rfl) (a_op (g_off rfl rfl rfl rfl rfl rfl rfl rfl) (a_op (g_off rfl rfl rfl rfl rfl rfl rfl rfl) (a_nil)))))))))))))))) ?_
         refine t_off rfl rfl rfl rfl rfl rfl rfl ?_
         refine t_op rfl rfl (PureD.opD (p_pkt rfl rfl rfl (.same _))) ?_
         refine t_op rfl rfl (PureD.opD (p_move rfl rfl)) ?_
         refine t_off rfl rfl rfl rfl rfl rfl rfl ?_
         refine t_off rfl rfl rfl rfl rfl rfl rfl ?_
         refine t_off rfl rfl rfl rfl rfl rfl rfl ?_
         refine t_op rfl rfl (PureD.opD (p_pkt rfl rfl rfl (.same _))) ?_
         refine t_op rfl rfl (PureD.opD (p_move rfl rfl)) ?_
         refine t_off rfl rfl rfl rfl rfl rfl rfl ?_
         refine t_off rfl rfl rfl rfl rfl rfl rfl ?_
         refine t_off rfl rfl rfl rfl rfl rfl rfl ?_
         refine t_op rfl rfl (PureD.opD (p_pkt rfl rfl rfl (.same _))) ?_
         refine t_op rfl rfl (PureD.opD (p_move rfl rfl)) ?_
         refine t_off rfl rfl rfl rfl rfl rfl rfl ?_
         refine t_off rfl rfl rfl rfl rfl rfl rfl ?_
         refine t_off rfl rfl rfl rfl rfl rfl rfl ?_
         refine t_op rfl rfl (PureD.opD (p_pkt rfl rfl rfl (.same _))) ?_
         refine t_op rfl rfl (PureD.opD (p_move rfl rfl)) ?_
         refine t_off rfl rfl rfl rfl rfl rfl rfl ?_
         refine t_off rfl rfl rfl rfl rfl rfl rfl ?_
         refine t_off rfl rfl rfl rfl rfl rfl rfl ?_
         refine t_op rfl rfl (PureD.opD (p_pkt rfl rfl rfl (.same _))) ?_
         refine t_gho (Gho_st (L := [(0, .t s0_0), (166, .b true)]) (H := []) (N := 169) rfl ⟨TLes.same _, TLes.same _, trivial⟩ trivial) ?_
         exact rfl
        ·replace H := ite_else h55 H
         refine chkK H fun h56 H => ?_
         refine (Classical.em ((lrd s0_0 1) < accept6'19.lo_)).elim (fun h57 => ?_) (fun h57 => ?_)
         ·replace H := ite_then h57 H
          have hz := some_elim H
          subst hz
          refine AW2_ghoQ ?_
          refine AW2_draw 15 [15, 16, 17, 18, 19, 20, 21, 22, 23, 24, 25, 26, 27, 28, 29, 30, 31, 32, 33, 34, 35, 36] (fun k => ([.t s0_0, .i (s0_0.length : Int), .b (decide ((s0_0.length : Int) < (4 : Int))), .b (decide ((s0_0.length : Int) < (4 : Int))), .t s0_0, .p (AV.b8 (lrd s0_0 1)), .q 6 (0 + 0), .p (AV.b8 accept6'19.lo_), .b (decide ((lrd s0_0 1) < accept6'19.lo_)), .b (decide ((lrd s0_0 1) < accept6'19.lo_)), .b (decide ((lrd s0_0 1) < accept6'19.lo_)), .p (.tup []), .p (.tup []), .p (.tup []), .p (.tup [])] : List TV).getD k TV.any) (fun k => g_utf8_ValidString_r25.getD k []) [(0, none), (140, some 10), (142, some 12), (144, some 14)] [] (fun k => g_utf8_ValidString_r25c.getD k []) mixed (by kernel_rfl) rfl rfl (a_op (g_x rfl (x_p rfl (p_move rfl rfl) rfl)) (a_op (g_x rfl (x_p rfl (p_lent rfl Tryd.underlying9 rfl) rfl)) (a_op (g_x rfl (x_p rfl (p_bin rfl rfl rfl rfl) rfl)) (a_op (g_x rfl (x_p rfl (p_move rfl rfl) rfl)) (a_op (g_on rfl rfl rfl (decide_eq_false h55) rfl (x_p rfl (p_move rfl rfl) rfl)) (a_op (g_on rfl rfl rfl (decide_eq_false h55) rfl (x_p rfl (p_ixt rfl Tryd.underlying9 rfl rfl rfl (lrd_get h56)) rfl)) (a_op (g_on rfl rfl rfl (decide_eq_false h55) rfl (x_p rfl (u_fa rfl rfl Tryd.underlying90 rfl in_5 (Nat.succ_ne_zero _) rfl rfl (ne_of_lt (n := 0) (Nat.lt_of_lt_of_eq (by decide) (Eq.symm (Gutf8_acceptRange.len accept6'19))))) rfl)) (a_op (g_on rfl rfl rfl (decide_eq_false h55) rfl (x_p rfl (u_ld rfl rfl Tryd.underlying5 rfl rfl ((Sub.refl _).trans (Gutf8_acceptRange.sub0 accept6'19))) rfl)) (a_op (g_on rfl rfl rfl (decide_eq_false h55) rfl (x_p rfl (p_u8lt (a := (lrd s0_0 1)) (b := accept6'19.lo_) rfl rfl rfl) rfl)) (a_op (g_x rfl (x_p rfl (p_pkf rfl rfl (decide_eq_false h55) (.same _)) rfl)) (a_op (g_x rfl (x_p rfl (p_move rfl rfl) rfl)) (a_op (g_off rfl rfl rfl rfl rfl (decide_eq_true h57) rfl rfl) (a_op (g_off rfl rfl rfl rfl rfl (decide_eq_true h57) rfl rfl) (a_op (g_off rfl rfl rfl rfl rfl (decide_eq_true h57) rfl rfl) (a_op (g_off rfl rfl rfl rfl rfl (decide_eq_true h57) rfl rfl) (a_nil)))))))))))))))) ?_
          refine t_off rfl rfl rfl rfl (decide_eq_true h57) rfl rfl ?_
          refine t_op rfl rfl (PureD.opD (p_pkt rfl rfl (decide_eq_true h57) (.same _))) ?_
          refine t_op rfl rfl (PureD.opD (p_move rfl rfl)) ?_
          refine t_off rfl rfl rfl rfl rfl rfl rfl ?_
          refine t_off rfl rfl rfl rfl rfl rfl rfl ?_
          refine t_off rfl rfl rfl rfl rfl rfl rfl ?_
          refine t_op rfl rfl (PureD.opD (p_pkt rfl rfl rfl (.same _))) ?_
          refine t_op rfl rfl (PureD.opD (p_move rfl rfl)) ?_
          refine t_off rfl rfl rfl rfl rfl rfl rfl ?_
          refine t_off rfl rfl rfl rfl rfl rfl rfl ?_
          refine t_off rfl rfl rfl rfl rfl rfl rfl ?_
          refine t_op rfl rfl (PureD.opD (p_pkt rfl rfl rfl (.same _))) ?_
          refine t_op rfl rfl (PureD.opD (p_move rfl rfl)) ?_
          refine t_off rfl rfl rfl rfl rfl rfl rfl ?_
          refine t_off rfl rfl rfl rfl rfl rfl rfl ?_
          refine t_off rfl rfl rfl rfl rfl rfl rfl ?_
          refine t_op rfl rfl (PureD.opD (p_pkt rfl rfl rfl (.same _))) ?_
          refine t_op rfl rfl (PureD.opD (p_move rfl rfl)) ?_
          refine t_off rfl rfl rfl rfl rfl rfl rfl ?_
          refine t_off rfl rfl rfl rfl rfl rfl rfl ?_
          refine t_off rfl rfl rfl rfl rfl rfl rfl ?_
          refine t_op rfl rfl (PureD.opD (p_pkt rfl rfl rfl (.same _))) ?_
          refine t_gho (Gho_st (L := [(0, .t s0_0), (166, .b true)]) (H := []) (N := 169) rfl ⟨TLes.same _, TLes.same _, trivial⟩ trivial) ?_
          exact rfl
         ·replace H := ite_else h57 H
          refine chkK H fun h58 H => ?_
          refine (Classical.em (accept6'19.hi_ < (lrd s0_0 1))).elim (fun h59 => ?_) (fun h59 => ?_)
          ·replace H := ite_then h59 H
           have hz := some_elim H
           subst hz
           refine AW2_ghoQ ?_
           refine AW2_draw 15 [15, 16, 17, 18, 19, 20, 21, 22, 23, 24, 25, 26, 27, 28, 29, 30, 31, 32, 33, 34, 35, 36] (fun k => ([.t s0_0, .i (s0_0.length : Int), .b (decide ((s0_0.length : Int) < (4 : Int))), .b (decide ((s0_0.length : Int) < (4 : Int))), .t s0_0, .p (AV.b8 (lrd s0_0 1)), .q 6 (0 + 0), .p (AV.b8 accept6'19.lo_), .b (decide ((lrd s0_0 1) < accept6'19.lo_)), .b (decide ((lrd s0_0 1) < accept6'19.lo_)), .b (decide ((lrd s0_0 1) < accept6'19.lo_)), .q 6 (0 + 1), .p (AV.b8 accept6'19.hi_), .t s0_0, .p (AV.b8 (lrd s0_0 1))] : List TV).getD k TV.any) (fun k => g_utf8_ValidString_r25.getD k []) [(0, none), (140, some 10), (142, some 12), (144, some 14)] [] (fun k => g_utf8_ValidString_r25c.getD k []) mixed (by kernel_rfl) rfl rfl (a_op (g_x rfl (x_p rfl (p_move rfl rfl) rfl)) (a_op (g_x rfl (x_p rfl (p_lent rfl Tryd.underlying9 rfl) rfl)) (a_op (g_x rfl (x_p rfl (p_bin rfl rfl rfl rfl) rfl)) (a_op (g_x rfl (x_p rfl (p_move rfl rfl) rfl)) (a_op (g_on rfl rfl rfl (decide_eq_false h55) rfl (x_p rfl (p_move rfl rfl) rfl)) (a_op (g_on rfl rfl rfl (decide_eq_false h55) rfl (x_p rfl (p_ixt rfl Tryd.underlying9 rfl rfl rfl (lrd_get h56)) rfl)) (a_op (g_on rfl rfl rfl (decide_eq_false h55) rfl (x_p rfl (u_fa rfl rfl Tryd.underlying90 rfl in_5 (Nat.succ_ne_zero _) rfl rfl (ne_of_lt (n := 0) (Nat.lt_of_lt_of_eq (by decide) (Eq.symm (Gutf8_acceptRange.len accept6'19))))) rfl)) (a_op (g_on rfl rfl rfl (decide_eq_false h55) rfl (x_p rfl (u_ld rfl rfl Tryd.underlying5 rfl rfl ((Sub.refl _).trans (Gutf8_acceptRange.sub0 accept6'19))) rfl)) (a_op (g_on rfl rfl rfl (decide_eq_false h55) rfl (x_p rfl (p_u8lt (a := (lrd s0_0 1)) (b := accept6'19.lo_) rfl rfl rfl) rfl)) (a_op (g_x rfl (x_p rfl (p_pkf rfl rfl (decide_eq_false h55) (.same _)) rfl)) (a_op (g_x rfl (x_p rfl (p_move rfl rfl) rfl)) (a_op (g_on rfl rfl rfl (decide_eq_false h57) rfl (x_p rfl (u_fa rfl rfl Tryd.underlying90 rfl in_5 (Nat.succ_ne_zero _) rfl rfl (ne_of_lt (n := 0) (Nat.lt_of_lt_of_eq (by decide) (Eq.symm (Gutf8_acceptRange.len accept6'19))))) rfl)) (a_op (g_on rfl rfl rfl (decide_eq_false h57) rfl (x_p rfl (u_ld rfl rfl Tryd.underlying5 rfl rfl ((Sub.refl _).trans (Gutf8_acceptRange.sub1 accept6'19))) rfl)) (a_op (g_on rfl rfl rfl (decide_eq_false h57) rfl (x_p rfl (p_move rfl rfl) rfl)) (a_op (g_on rfl rfl rfl (decide_eq_false h57) rfl (x_p rfl (p_ixt rfl Tryd.underlying9 rfl rfl rfl (lrd_get h58)) rfl)) (a_nil)))))))))))))))) ?_
           refine t_on rfl rfl rfl rfl (decide_eq_false h57) rfl (PureD.opD (p_u8lt (a := accept6'19.hi_) (b := (lrd s0_0 1)) rfl rfl rfl)) ?_
           refine t_op rfl rfl (PureD.opD (p_pkf rfl rfl (decide_eq_false h57) (.same _))) ?_
           refine t_op rfl rfl (PureD.opD (p_move rfl rfl)) ?_
           refine t_off rfl rfl rfl rfl (decide_eq_true h59) rfl rfl ?_
           refine t_off rfl rfl rfl rfl (decide_eq_true h59) rfl rfl ?_
           refine t_off rfl rfl rfl rfl (decide_eq_true h59) rfl rfl ?_
           refine t_op rfl rfl (PureD.opD (p_pkt rfl rfl (decide_eq_true h59) (.same _))) ?_
           refine t_op rfl rfl (PureD.opD (p_move rfl rfl)) ?_
           refine t_off rfl rfl rfl rfl rfl rfl rfl ?_
           refine t_off rfl rfl rfl rfl rfl rfl rfl ?_
           refine t_off rfl rfl rfl rfl rfl rfl rfl ?_
           refine t_op rfl rfl (PureD.opD (p_pkt rfl rfl rfl (.same _))) ?_
           refine t_op rfl rfl (PureD.opD (p_move rfl rfl)) ?_
           refine t_off rfl rfl rfl rfl rfl rfl rfl ?_
           refine t_off rfl rfl rfl rfl rfl rfl rfl ?_
           refine t_off rfl rfl rfl rfl rfl rfl rfl ?_
           refine t_op rfl rfl (PureD.opD (p_pkt rfl rfl rfl (.same _))) ?_
           refine t_op rfl rfl (PureD.opD (p_move rfl rfl)) ?_
           refine t_off rfl rfl rfl rfl rfl rfl rfl ?_
           refine t_off rfl rfl rfl rfl rfl rfl rfl ?_
           refine t_off rfl rfl rfl rfl rfl rfl rfl ?_
           refine t_op rfl rfl (PureD.opD (p_pkt rfl rfl rfl (.same _))) ?_
           refine t_gho (Gho_st (L := [(0, .t s0_0), (166, .b true)]) (H := []) (N := 169) rfl ⟨TLes.same _, TLes.same _, trivial⟩ trivial) ?_
           exact rfl
          ·replace H := ite_else h59 H
           refine chkK H fun h60 H => ?_
           refine (Classical.em ((lrd s0_0 2) < (128 : UInt8))).elim (fun h61 => ?_) (fun h61 => ?_)
           ·replace H := ite_then h61 H
            have hz := some_elim H
            subst hz
            refine AW2_ghoQ ?_
            refine AW2_draw 15 [15, 16, 17, 18, 19, 20, 21, 22, 23, 24, 25, 26, 27, 28, 29, 30, 31, 32, 33, 34, 35, 36] (fun k => ([.t s0_0, .i (s0_0.length : Int), .b (decide ((s0_0.length : Int) < (4 : Int))), .b (decide ((s0_0.length : Int) < (4 : Int))), .t s0_0, .p (AV.b8 (lrd s0_0 1)), .q 6 (0 + 0), .p (AV.b8 accept6'19.lo_), .b (decide ((lrd s0_0 1) < accept6'19.lo_)), .b (decide ((lrd s0_0 1) < accept6'19.lo_)), .b (decide ((lrd s0_0 1) < accept6'19.lo_)), .q 6 (0 + 1), .p (AV.b8 accept6'19.hi_), .t s0_0, .p (AV.b8 (lrd s0_0 1))] : List TV).getD k TV.any) (fun k => g_utf8_ValidString_r25.getD k []) [(0, none), (140, some 10), (142, some 12), (144, some 14)] [] (fun k => g_utf8_ValidString_r25c.getD k []) mixed (by kernel_rfl) rfl rfl (a_op (g_x rfl (x_p rfl (p_move rfl rfl) rfl)) (a_op (g_x rfl (x_p rfl (p_lent rfl Tryd.underlying9 rfl) rfl)) (a_op (g_x rfl (x_p rfl (p_bin rfl rfl rfl rfl) rfl)) (a_op (g_x rfl (x_p rfl (p_move rfl rfl) rfl)) (a_op (g_on rfl rfl rfl (decide_eq_false h55) rfl (x_p rfl (p_move rfl rfl) rfl)) (a_op (g_on rfl rfl rfl (decide_eq_false h55) rfl (x_p rfl (p_ixt rfl Tryd.underlying9 rfl rfl rfl (lrd_get h56)) rfl)) (a_op (g_on rfl rfl rfl (decide_eq_false h55) rfl (x_p rfl (u_fa rfl rfl Tryd.underlying90 rfl in_5 (Nat.succ_ne_zero _) rfl rfl (ne_of_lt (n := 0) (Nat.lt_of_lt_of_eq (by decide) (Eq.symm (Gutf8_acceptRange.len accept6'19))))) rfl)) (a_op (g_on rfl rfl rfl (decide_eq_false h55) rfl (x_p rfl (u_ld rfl rfl Tryd.underlying5 rfl rfl ((Sub.refl _).trans (Gutf8_acceptRange.sub0 accept6'19))) rfl)) (a_op (g_on rfl rfl rfl (decide_eq_false h55) rfl (x_p rfl (p_u8lt (a := (lrd s0_0 1)) (b := accept6'19.lo_) rfl rfl rfl) rfl)) (a_op (g_x rfl (x_p rfl (p_pkf rfl rfl (decide_eq_false h55) (.same _)) rfl)) (a_op (g_x rfl (x_p rfl (p_move rfl rfl) rfl)) (a_op (g_on rfl rfl rfl (decide_eq_false h57) rfl (x_p rfl (u_fa rfl rfl Tryd.underlying90 rfl in_5 (Nat.succ_ne_zero _) rfl rfl (ne_of_lt (n := 0) (Nat.lt_of_lt_of_eq (by decide) (Eq.symm (Gutf8_acceptRange.len accept6'19))))) rfl)) (a_op (g_on rfl rfl rfl (decide_eq_false h57) rfl (x_p rfl (u_ld rfl rfl Tryd.underlying5 rfl rfl ((Sub.refl _).trans (Gutf8_acceptRange.sub1 accept6'19))) rfl)) (a_op (g_on rfl rfl rfl (decide_eq_false h57) rfl (x_p rfl (p_move rfl rfl) rfl)) (a_op (g_on rfl rfl rfl (decide_eq_false h57) rfl (x_p rfl (p_ixt rfl Tryd.underlying9 rfl rfl rfl (lrd_get h58)) rfl)) (a_nil)))))))))))))))) ?_
            refine t_on rfl rfl rfl rfl (decide_eq_false h57) rfl (PureD.opD (p_u8lt (a := accept6'19.hi_) (b := (lrd s0_0 1)) rfl rfl rfl)) ?_
            refine t_op rfl rfl (PureD.opD (p_pkf rfl rfl (decide_eq_false h57) (.same _))) ?_
            refine t_op rfl rfl (PureD.opD (p_move rfl rfl)) ?_
            refine t_on rfl rfl rfl rfl (decide_eq_false h59) rfl (PureD.opD (p_move rfl rfl)) ?_
            refine t_on rfl rfl rfl rfl (decide_eq_false h59) rfl (PureD.opD (p_ixt rfl Tryd.underlying9 rfl rfl rfl (lrd_get h60))) ?_
            refine t_on rfl rfl rfl rfl (decide_eq_false h59) rfl (PureD.opD (p_u8lt (a := (lrd s0_0 2)) (b := (128 : UInt8)) rfl rfl rfl)) ?_
            refine t_op rfl rfl (PureD.opD (p_pkf rfl rfl (decide_eq_false h59) (.same _))) ?_
            refine t_op rfl rfl (PureD.opD (p_move rfl rfl)) ?_
            refine t_off rfl rfl rfl rfl (decide_eq_true h61) rfl rfl ?_
            refine t_off rfl rfl rfl rfl (decide_eq_true h61) rfl rfl ?_
            refine t_off rfl rfl rfl rfl (decide_eq_true h61) rfl rfl ?_
            refine t_op rfl rfl (PureD.opD (p_pkt rfl rfl (decide_eq_true h61) (.same _))) ?_
            refine t_op rfl rfl (PureD.opD (p_move rfl rfl)) ?_
            refine t_off rfl rfl rfl rfl rfl rfl rfl ?_
            refine t_off rfl rfl rfl rfl rfl rfl rfl ?_
            refine t_off rfl rfl rfl rfl rfl rfl rfl ?_
            refine t_op rfl rfl (PureD.opD (p_pkt rfl rfl rfl (.same _))) ?_
            refine t_op rfl rfl (PureD.opD (p_move rfl rfl)) ?_
            refine t_off rfl rfl rfl rfl rfl rfl rfl ?_
            refine t_off rfl rfl rfl rfl rfl rfl rfl ?_
            refine t_off rfl rfl rfl rfl rfl rfl rfl ?_
            refine t_op rfl rfl (PureD.opD (p_pkt rfl rfl rfl (.same _))) ?_
            refine t_gho (Gho_st (L := [(0, .t s0_0), (166, .b true)]) (H := []) (N := 169) rfl ⟨TLes.same _, TLes.same _, trivial⟩ trivial) ?_
            exact rfl
           ·replace H := ite_else h61 H
            refine chkK H fun h62 H => ?_
            refine (Classical.em ((191 : UInt8) < (lrd s0_0 2))).elim (fun h63 => ?_) (fun h63 => ?_)
            ·replace H := ite_then h63 H
             have hz := some_elim H
             subst hz
             refine AW2_ghoQ ?_
             refine AW2_draw 15 [15, 16, 17, 18, 19, 20, 21, 22, 23, 24, 25, 26, 27, 28, 29, 30, 31, 32, 33, 34, 35, 36] (fun k => ([.t s0_0, .i (s0_0.length : Int), .b (decide ((s0_0.length : Int) < (4 : Int))), .b (decide ((s0_0.length : Int) < (4 : Int))), .t s0_0, .p (AV.b8 (lrd s0_0 1)), .q 6 (0 + 0), .p (AV.b8 accept6'19.lo_), .b (decide ((lrd s0_0 1) < accept6'19.lo_)), .b (decide ((lrd s0_0 1) < accept6'19.lo_)), .b (decide ((lrd s0_0 1) < accept6'19.lo_)), .q 6 (0 + 1), .p (AV.b8 accept6'19.hi_), .t s0_0, .p (AV.b8 (lrd s0_0 1))] : List TV).getD k TV.any) (fun k => g_utf8_ValidString_r25.getD k []) [(0, none), (140, some 10), (142, some 12), (144, some 14)] [] (fun k => g_utf8_ValidString_r25c.getD k []) mixed (by kernel_rfl) rfl rfl (a_op (g_x rfl (x_p rfl (p_move rfl rfl) rfl)) (a_op (g_x rfl (x_p rfl (p_lent rfl Tryd.underlying9 rfl) rfl)) (a_op (g_x rfl (x_p rfl (p_bin rfl rfl rfl rfl) rfl)) (a_op (g_x rfl (x_p rfl (p_move rfl rfl) rfl)) (a_op (g_on rfl rfl rfl (decide_eq_false h55) rfl (x_p rfl (p_move rfl rfl) rfl)) (a_op (g_on rfl rfl rfl (decide_eq_false h55) rfl (x_p rfl (p_ixt rfl Tryd.underlying9 rfl rfl rfl (lrd_get h56)) rfl)) (a_op (g_on rfl rfl rfl (decide_eq_false h55) rfl (x_p rfl (u_fa rfl rfl Tryd.underlying90 rfl in_5 (Nat.succ_ne_zero _) rfl rfl (ne_of_lt (n := 0) (Nat.lt_of_lt_of_eq (by decide) (Eq.symm (Gutf8_acceptRange.len accept6'19))))) rfl)) (a_op (g_on rfl rfl rfl (decide_eq_false h55) rfl (x_p rfl (u_ld rfl rfl Tryd.underlying5 rfl rfl ((Sub.refl _).trans (Gutf8_acceptRange.sub0 accept6'19))) rfl)) (a_op (g_on rfl rfl rfl (decide_eq_false h55) rfl (x_p rfl (p_u8lt (a := (lrd s0_0 1)) (b := accept6'19.lo_) rfl rfl rfl) rfl)) (a_op (g_x rfl (x_p rfl (p_pkf rfl rfl (decide_eq_false h55) (.same _)) rfl)) (a_op (g_x rfl (x_p rfl (p_move rfl rfl) rfl)) (a_op (g_on rfl rfl rfl (decide_eq_false h57) rfl (x_p rfl (u_fa rfl rfl Tryd.underlying90 rfl in_5 (Nat.succ_ne_zero _) rfl rfl (ne_of_lt (n := 0) (Nat.lt_of_lt_of_eq (by decide) (Eq.symm (Gutf8_acceptRange.len accept6'19))))) rfl)) (a_op (g_on rfl rfl rfl (decide_eq_false h57) rfl (x_p rfl (u_ld rfl rfl Tryd.underlying5 rfl rfl ((Sub.refl _).trans (Gutf8_acceptRange.sub1 accept6'19))) rfl)) (a_op (g_on rfl rfl rfl (decide_eq_false h57) rfl (x_p rfl (p_move rfl rfl) rfl)) (a_op (g_on rfl rfl rfl (decide_eq_false h57) rfl (x_p rfl (p_ixt rfl Tryd.underlying9 rfl rfl rfl (lrd_get h58)) rfl)) (a_nil)))))))))))))))) ?_
             refine t_on rfl rfl rfl rfl (decide_eq_false h57) rfl (PureD.opD (p_u8lt (a := accept6'19.hi_) (b := (lrd s0_0 1)) rfl rfl rfl)) ?_
             refine t_op rfl rfl (PureD.opD (p_pkf rfl rfl (decide_eq_false h57) (.same _))) ?_
             refine t_op rfl rfl (PureD.opD (p_move rfl rfl)) ?_
             refine t_on rfl rfl rfl rfl (decide_eq_false h59) rfl (PureD.opD (p_move rfl rfl)) ?_
             refine t_on rfl rfl rfl rfl (decide_eq_false h59) rfl (PureD.opD (p_ixt rfl Tryd.underlying9 rfl rfl rfl (lrd_get h60))) ?_
             refine t_on rfl rfl rfl rfl (decide_eq_false h59) rfl (PureD.opD (p_u8lt (a := (lrd s0_0 2)) (b := (128 : UInt8)) rfl rfl rfl)) ?_
             refine t_op rfl rfl (PureD.opD (p_pkf rfl rfl (decide_eq_false h59) (.same _))) ?_
             refine t_op rfl rfl (PureD.opD (p_move rfl rfl)) ?_
             refine t_on rfl rfl rfl rfl (decide_eq_false h61) rfl (PureD.opD (p_move rfl rfl)) ?_
             refine t_on rfl rfl rfl rfl (decide_eq_false h61) rfl (PureD.opD (p_ixt rfl Tryd.underlying9 rfl rfl rfl (lrd_get h62))) ?_
             refine t_on rfl rfl rfl rfl (decide_eq_false h61) rfl (PureD.opD (p_u8lt (a := (191 : UInt8)) (b := (lrd s0_0 2)) rfl rfl rfl)) ?_
             refine t_op rfl rfl (PureD.opD (p_pkf rfl rfl (decide_eq_false h61) (.same _))) ?_
             refine t_op rfl rfl (PureD.opD (p_move rfl rfl)) ?_
             refine t_off rfl rfl rfl rfl (decide_eq_true h63) rfl rfl ?_
             refine t_off rfl rfl rfl rfl (decide_eq_true h63) rfl rfl ?_
             refine t_off rfl rfl rfl rfl (decide_eq_true h63) rfl rfl ?_
             refine t_op rfl rfl (PureD.opD (p_pkt rfl rfl (decide_eq_true h63) (.same _))) ?_
             refine t_op rfl rfl (PureD.opD (p_move rfl rfl)) ?_
             refine t_off rfl rfl rfl rfl rfl rfl rfl ?_
             refine t_off rfl rfl rfl rfl rfl rfl rfl ?_
             refine t_off rfl rfl rfl rfl rfl rfl rfl ?_
             refine t_op rfl rfl (PureD.opD (p_pkt rfl rfl rfl (.same _))) ?_
             refine t_gho (Gho_st (L := [(0, .t s0_0), (166, .b true)]) (H := []) (N := 169) rfl ⟨TLes.same _, TLes.same _, trivial⟩ trivial) ?_
             exact rfl
            ·replace H := ite_else h63 H
             refine chkK H fun h64 H => ?_
             refine (Classical.em ((lrd s0_0 3) < (128 : UInt8))).elim (fun h65 => ?_) (fun h65 => ?_)
             ·replace H := ite_then h65 H
              have hz := some_elim H
              subst hz
              refine AW2_ghoQ ?_
              refine AW2_draw 15 [15, 16, 17, 18, 19, 20, 21, 22, 23, 24, 25, 26, 27, 28, 29, 30, 31, 32, 33, 34, 35, 36] (fun k => ([.t s0_0, .i (s0_0.length : Int), .b (decide ((s0_0.length : Int) < (4 : Int))), .b (decide ((s0_0.length : Int) < (4 : Int))), .t s0_0, .p (AV.b8 (lrd s0_0 1)), .q 6 (0 + 0), .p (AV.b8 accept6'19.lo_), .b (decide ((lrd s0_0 1) < accept6'19.lo_)), .b (decide ((lrd s0_0 1) < accept6'19.lo_)), .b (decide ((lrd s0_0 1) < accept6'19.lo_)), .q 6 (0 + 1), .p (AV.b8 accept6'19.hi_), .t s0_0, .p (AV.b8 (lrd s0_0 1))] : List TV).getD k TV.any) (fun k => g_utf8_ValidString_r25.getD k []) [(0, none), (140, some 10), (142, some 12), (144, some 14)] [] (fun k => g_utf8_ValidString_r25c.getD k []) mixed (by kernel_rfl) rfl rfl (a_op (g_x rfl (x_p rfl (p_move rfl rfl) rfl)) (a_op (g_x rfl (x_p rfl (p_lent rfl Tryd.underlying9 rfl) rfl)) (a_op (g_x rfl (x_p rfl (p_bin rfl rfl rfl rfl) rfl)) (a_op (g_x rfl (x_p rfl (p_move rfl rfl) rfl)) (a_op (g_on rfl rfl rfl (decide_eq_false h55) rfl (x_p rfl (p_move rfl rfl) rfl)) (a_op (g_on rfl rfl rfl (decide_eq_false h55) rfl (x_p rfl (p_ixt rfl Tryd.underlying9 rfl rfl rfl (lrd_get h56)) rfl)) (a_op (g_on rfl rfl rfl (decide_eq_false h55) rfl (x_p rfl (u_fa rfl rfl Tryd.underlying90 rfl in_5 (Nat.succ_ne_zero _) rfl rfl (ne_of_lt (n := 0) (Nat.lt_of_lt_of_eq (by decide) (Eq.symm (Gutf8_acceptRange.len accept6'19))))) rfl)) (a_op (g_on rfl rfl rfl (decide_eq_false h55) rfl (x_p rfl (u_ld rfl rfl Tryd.underlying5 rfl rfl ((Sub.refl _).trans (Gutf8_acceptRange.sub0 accept6'19))) rfl)) (a_op (g_on rfl rfl rfl (decide_eq_false h55) rfl (x_p rfl (p_u8lt (a := (lrd s0_0 1)) (b := accept6'19.lo_) rfl rfl rfl) rfl)) (a_op (g_x rfl (x_p rfl (p_pkf rfl rfl (decide_eq_false h55) (.same _)) rfl)) (a_op (g_x rfl (x_p rfl (p_move rfl rfl) rfl)) (a_op (g_on rfl rfl rfl (decide_eq_false h57) rfl (x_p rfl (u_fa rfl rfl Tryd.underlying90 rfl in_5 (Nat.succ_ne_zero _) rfl rfl (ne_of_lt (n := 0) (Nat.lt_of_lt_of_eq (by decide) (Eq.symm (Gutf8_acceptRange.len accept6'19))))) rfl)) (a_op (g_on rfl rfl rfl (decide_eq_false h57) rfl (x_p rfl (u_ld rfl rfl Tryd.underlying5 rfl rfl ((Sub.refl _).trans (Gutf8_acceptRange.sub1 accept6'19))) rfl)) (a_op (g_on rfl rfl rfl (decide_eq_false h57) rfl (x_p rfl (p_move rfl rfl) rfl)) (a_op (g_on rfl rfl rfl (decide_eq_false h57) rfl (x_p rfl (p_ixt rfl Tryd.underlying9 rfl rfl rfl (lrd_get h58)) rfl)) (a_nil)))))))))))))))) ?_
              refine t_on rfl rfl rfl rfl (decide_eq_false h57) rfl (PureD.opD (p_u8lt (a := accept6'19.hi_) (b := (lrd s0_0 1)) rfl rfl rfl)) ?_
              refine t_op rfl rfl (PureD.opD (p_pkf rfl rfl (decide_eq_false h57) (.same _))) ?_
              refine t_op rfl rfl (PureD.opD (p_move rfl rfl)) ?_
              refine t_on rfl rfl rfl rfl (decide_eq_false h59) rfl (PureD.opD (p_move rfl rfl)) ?_
              refine t_on rfl rfl rfl rfl (decide_eq_false h59) rfl (PureD.opD (p_ixt rfl Tryd.underlying9 rfl rfl rfl (lrd_get h60))) ?_
              refine t_on rfl rfl rfl rfl (decide_eq_false h59) rfl (PureD.opD (p_u8lt (a := (lrd s0_0 2)) (b := (128 : UInt8)) rfl rfl rfl)) ?_
              refine t_op rfl rfl (PureD.opD (p_pkf rfl rfl (decide_eq_false h59) (.same _))) ?_
              refine t_op rfl rfl (PureD.opD (p_move rfl rfl)) ?_
              refine t_on rfl rfl rfl rfl (decide_eq_false h61) rfl (PureD.opD (p_move rfl rfl)) ?_
              refine t_on rfl rfl rfl rfl (decide_eq_false h61) rfl (PureD.opD (p_ixt rfl Tryd.underlying9 rfl rfl rfl (lrd_get h62))) ?_
              refine t_on rfl rfl rfl rfl (decide_eq_false h61) rfl (PureD.opD (p_u8lt (a := (191 : UInt8)) (b := (lrd s0_0 2)) rfl rfl rfl)) ?_
              refine t_op rfl rfl (PureD.opD (p_pkf rfl rfl (decide_eq_false h61) (.same _))) ?_
              refine t_op rfl rfl (PureD.opD (p_move rfl rfl)) ?_
              refine t_on rfl rfl rfl rfl (decide_eq_false h63) rfl (PureD.opD (p_move rfl rfl)) ?_
              refine t_on rfl rfl rfl rfl (decide_eq_false h63) rfl (PureD.opD (p_ixt rfl Tryd.underlying9 rfl rfl rfl (lrd_get h64))) ?_
              refine t_on rfl rfl rfl rfl (decide_eq_false h63) rfl (PureD.opD (p_u8lt (a := (lrd s0_0 3)) (b := (128 : UInt8)) rfl rfl rfl)) ?_
              refine t_op rfl rfl (PureD.opD (p_pkf rfl rfl (decide_eq_false h63) (.same _))) ?_
              refine t_op rfl rfl (PureD.opD (p_move rfl rfl)) ?_
              refine t_off rfl rfl rfl rfl (decide_eq_true h65) rfl rfl ?_
              refine t_off rfl rfl rfl rfl (decide_eq_true h65) rfl rfl ?_
              refine t_off rfl rfl rfl rfl (decide_eq_true h65) rfl rfl ?_
              refine t_op rfl rfl (PureD.opD (p_pkt rfl rfl (decide_eq_true h65) (.same _))) ?_
              refine t_gho (Gho_st (L := [(0, .t s0_0), (166, .b true)]) (H := []) (N := 169) rfl ⟨TLes.same _, TLes.same _, trivial⟩ trivial) ?_
              exact rfl
             ·replace H := ite_else h65 H
              refine chkK H fun h66 H => ?_
              have hz := some_elim H
              subst hz
              refine AW2_ghoQ ?_
              refine AW2_draw 15 [15, 16, 17, 18, 19, 20, 21, 22, 23, 24, 25, 26, 27, 28, 29, 30, 31, 32, 33, 34, 35, 36] (fun k => ([.t s0_0, .i (s0_0.length : Int), .b (decide ((s0_0.length : Int) < (4 : Int))), .b (decide ((s0_0.length : Int) < (4 : Int))), .t s0_0, .p (AV.b8 (lrd s0_0 1)), .q 6 (0 + 0), .p (AV.b8 accept6'19.lo_), .b (decide ((lrd s0_0 1) < accept6'19.lo_)), .b (decide ((lrd s0_0 1) < accept6'19.lo_)), .b (decide ((lrd s0_0 1) < accept6'19.lo_)), .q 6 (0 + 1), .p (AV.b8 accept6'19.hi_), .t s0_0, .p (AV.b8 (lrd s0_0 1))] : List TV).getD k TV.any) (fun k => g_utf8_ValidString_r25.getD k []) [(0, none), (140, some 10), (142, some 12), (144, some 14)] [] (fun k => g_utf8_ValidString_r25c.getD k []) mixed (by kernel_rfl) rfl rfl (a_op (g_x rfl (x_p rfl (p_move rfl rfl) rfl)) (a_op (g_x rfl (x_p rfl (p_lent rfl Tryd.underlying9 rfl) rfl)) (a_op (g_x rfl (x_p rfl (p_bin rfl rfl rfl rfl) rfl)) (a_op (g_x rfl (x_p rfl (p_move rfl rfl) rfl)) (a_op (g_on rfl rfl rfl (decide_eq_false h55) rfl (x_p rfl (p_move rfl rfl) rfl)) (a_op (g_on rfl rfl rfl (decide_eq_false h55) rfl (x_p rfl (p_ixt rfl Tryd.underlying9 rfl rfl rfl (lrd_get h56)) rfl)) (a_op (g_on rfl rfl rfl (decide_eq_false h55) rfl (x_p rfl (u_fa rfl rfl Tryd.underlying90 rfl in_5 (Nat.succ_ne_zero _) rfl rfl (ne_of_lt (n := 0) (Nat.lt_of_lt_of_eq (by decide) (Eq.symm (Gutf8_acceptRange.len accept6'19))))) rfl)) (a_op (g_on rfl rfl rfl (decide_eq_false h55) rfl (x_p rfl (u_ld rfl rfl Tryd.underlying5 rfl rfl ((Sub.refl _).trans (Gutf8_acceptRange.sub0 accept6'19))) rfl)) (a_op (g_on rfl rfl rfl (decide_eq_false h55) rfl (x_p rfl (p_u8lt (a := (lrd s0_0 1)) (b := accept6'19.lo_) rfl rfl rfl) rfl)) (a_op (g_x rfl (x_p rfl (p_pkf rfl rfl (decide_eq_false h55) (.same _)) rfl)) (a_op (g_x rfl (x_p rfl (p_move rfl rfl) rfl)) (a_op (g_on rfl rfl rfl (decide_eq_false h57) rfl (x_p rfl (u_fa rfl rfl Tryd.underlying90 rfl in_5 (Nat.succ_ne_zero _) rfl rfl (ne_of_lt (n := 0) (Nat.lt_of_lt_of_eq (by decide) (Eq.symm (Gutf8_acceptRange.len accept6'19))))) rfl)) (a_op (g_on rfl rfl rfl (decide_eq_false h57) rfl (x_p rfl (u_ld rfl rfl Tryd.underlying5 rfl rfl ((Sub.refl _).trans (Gutf8_acceptRange.sub1 accept6'19))) rfl)) (a_op (g_on rfl rfl rfl (decide_eq_false h57) rfl (x_p rfl (p_move rfl rfl) rfl)) (a_op (g_on rfl rfl rfl (decide_eq_false h57) rfl (x_p rfl (p_ixt rfl Tryd.underlying9 rfl rfl rfl (lrd_get h58)) rfl)) (a_nil)))))))))))))))) ?_
              refine t_on rfl rfl rfl rfl (decide_eq_false h57) rfl (PureD.opD (p_u8lt (a := accept6'19.hi_) (b := (lrd s0_0 1)) rfl rfl rfl)) ?_
              refine t_op rfl rfl (PureD.opD (p_pkf rfl rfl (decide_eq_false h57) (.same _))) ?_
              refine t_op rfl rfl (PureD.opD (p_move rfl rfl)) ?_
              refine t_on rfl rfl rfl rfl (decide_eq_false h59) rfl (PureD.opD (p_move rfl rfl)) ?_
              refine t_on rfl rfl rfl rfl (decide_eq_false h59) rfl (PureD.opD (p_ixt rfl Tryd.underlying9 rfl rfl rfl (lrd_get h60))) ?_
              refine t_on rfl rfl rfl rfl (decide_eq_false h59) rfl (PureD.opD (p_u8lt (a := (lrd s0_0 2)) (b := (128 : UInt8)) rfl rfl rfl)) ?_
              refine t_op rfl rfl (PureD.opD (p_pkf rfl rfl (decide_eq_false h59) (.same _))) ?_
              refine t_op rfl rfl (PureD.opD (p_move rfl rfl)) ?_
              refine t_on rfl rfl rfl rfl (decide_eq_false h61) rfl (PureD.opD (p_move rfl rfl)) ?_
              refine t_on rfl rfl rfl rfl (decide_eq_false h61) rfl (PureD.opD (p_ixt rfl Tryd.underlying9 rfl rfl rfl (lrd_get h62))) ?_
              refine t_on rfl rfl rfl rfl (decide_eq_false h61) rfl (PureD.opD (p_u8lt (a := (191 : UInt8)) (b := (lrd s0_0 2)) rfl rfl rfl)) ?_
              refine t_op rfl rfl (PureD.opD (p_pkf rfl rfl (decide_eq_false h61) (.same _))) ?_
              refine t_op rfl rfl (PureD.opD (p_move rfl rfl)) ?_
              refine t_on rfl rfl rfl rfl (decide_eq_false h63) rfl (PureD.opD (p_move rfl rfl)) ?_
              refine t_on rfl rfl rfl rfl (decide_eq_false h63) rfl (PureD.opD (p_ixt rfl Tryd.underlying9 rfl rfl rfl (lrd_get h64))) ?_
              refine t_on rfl rfl rfl rfl (decide_eq_false h63) rfl (PureD.opD (p_u8lt (a := (lrd s0_0 3)) (b := (128 : UInt8)) rfl rfl rfl)) ?_
              refine t_op rfl rfl (PureD.opD (p_pkf rfl rfl (decide_eq_false h63) (.same _))) ?_
              refine t_op rfl rfl (PureD.opD (p_move rfl rfl)) ?_
              refine t_on rfl rfl rfl rfl (decide_eq_false h65) rfl (PureD.opD (p_move rfl rfl)) ?_
              refine t_on rfl rfl rfl rfl (decide_eq_false h65) rfl (PureD.opD (p_ixt rfl Tryd.underlying9 rfl rfl rfl (lrd_get h66))) ?_
              refine t_on rfl rfl rfl rfl (decide_eq_false h65) rfl (PureD.opD (p_u8lt (a := (191 : UInt8)) (b := (lrd s0_0 3)) rfl rfl rfl)) ?_
              refine t_op rfl rfl (PureD.opD (p_pkf rfl rfl (decide_eq_false h65) (.same _))) ?_
              refine t_gho (Gho_st (L := [(0, .t s0_0), (166, .b (decide ((191 : UInt8) < (lrd s0_0 3))))]) (H := []) (N := 169) rfl ⟨TLes.same _, TLes.same _, trivial⟩ trivial) ?_
              exact rfl
       ·refine AW2_cond rfl (fun h68 => ?_) (fun h68 => ?_)
        ·replace H := ite_then h68 H
         refine sg [0] rfl ?_
         refine rp rfl rfl (p_asg rfl rfl) ?_
         refine rz [(2, .b false)] [] rfl rfl rfl ?_
         refine AW2_ret ?_
         have hz := some_elim H
         subst hz
         exact ⟨rfl, ⟨res_tmp (.same _), trivial⟩, trivial⟩
        ·replace H := ite_else (ne_true h68) H
         refine as2 [(0, .t s0_0)] [] rfl rfl rfl ?_
         refine AW2_skip ?_
         refine AW2_reg [0, 1, 2] rfl ?_
         refine rp rfl rfl (p_move rfl rfl) ?_
         refine chkK H fun h69 H => ?_
         refine rp rfl rfl (u_cutt (a := (4 : Int)) (b := (s0_0.length : Int)) rfl Tryd.underlying9 rfl (bT_i (show 0 ≤ (4 : Int) ∧ (4 : Int) ≤ (s0_0.length : Int) ∧ (s0_0.length : Int) ≤ (s0_0.length : Int) from ⟨h69.1, h69.2, Int.le_refl _⟩).1 rfl) (bT_len _) (show 0 ≤ (4 : Int) ∧ (4 : Int) ≤ (s0_0.length : Int) ∧ (s0_0.length : Int) ≤ (s0_0.length : Int) from ⟨h69.1, h69.2, Int.le_refl _⟩)) ?_
         refine rp rfl rfl (p_asg rfl rfl) ?_
         refine rz [(0, .t (cut s0_0 (4 : Int) (s0_0.length : Int)))] [] rfl rfl rfl ?_
         have hz := some_elim H
         subst hz
         exact ⟨rfl, rfl⟩
      ·replace H := ite_else h54 H
       refine sg [0] rfl ?_
       refine rp rfl rfl (p_asg rfl rfl) ?_
       refine rz [(2, .b false)] [] rfl rfl rfl ?_
       refine AW2_ret ?_
       have hz := some_elim H
       subst hz
       exact ⟨rfl, ⟨res_tmp (.same _), trivial⟩, trivial⟩
  ·replace H := ite_else h1 H
   refine as2 [] [] rfl rfl rfl ?_
   refine AW2_exit ?_
   refine thenQ2_exit ?_
   have hz := some_elim H
   subst hz
   exact ⟨rfl, rfl⟩
 ·rcases o'26 with y'27 | y'28
  ·obtain ⟨rfl, hs⟩ := hs
   refine ⟨by simp, ?_⟩
   have hz := some_elim H
   subst hz
   exact ⟨hs.1, hs.2⟩
  ·obtain ⟨rfl, rfl⟩ := hs
   refine ⟨by simp, ?_⟩
   refine blockQ2_exit ?_
   refine sg [0] rfl ?_
   refine rp rfl rfl (p_asg rfl rfl) ?_
   refine rz [(2, .b true)] [] rfl rfl rfl ?_
   refine AW2_ret ?_
   have hz := some_elim H
   subst hz
   exact ⟨⟨res_tmp (.same _), trivial⟩, trivial⟩
end Go.Proofs.YtfekkhinjdmcbaaDoor.VM
