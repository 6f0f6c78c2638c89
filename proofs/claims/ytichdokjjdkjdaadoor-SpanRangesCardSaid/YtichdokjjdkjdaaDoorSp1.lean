/- Functions of the program, as they answer, and that their code comes to these answers. -/
import Derived.Test.YtichdokjjdkjdaaDoorSp0
namespace Go.Proofs.YtichdokjjdkjdaaDoor.VM
open Go Go.RowKit

structure GToken where
  Kind : Int
  Text : List UInt8
  Int_ : Int
  Bits : UInt64
deriving DecidableEq, Inhabited
def GToken.zero : GToken := ⟨(0 : Int), [], (0 : Int), (0 : UInt64)⟩
def GToken.cs (x : GToken) : List AV := ([(AV.int x.Kind)]) ++ (([(AV.txt x.Text)]) ++ (([(AV.int x.Int_)]) ++ ([(AV.u64 x.Bits)])))
theorem GToken.len (x : GToken) : (GToken.cs x).length = 4 := by
  simp only [GToken.cs, List.length_append]
  rw [show ([(AV.int x.Kind)]).length = 1 from (show ([(AV.int x.Kind)]).length = 1 from rfl), show ([(AV.txt x.Text)]).length = 1 from (show ([(AV.txt x.Text)]).length = 1 from rfl), show ([(AV.int x.Int_)]).length = 1 from (show ([(AV.int x.Int_)]).length = 1 from rfl), show ([(AV.u64 x.Bits)]).length = 1 from (show ([(AV.u64 x.Bits)]).length = 1 from rfl)]
theorem GToken.sub0 (x : GToken) : Sub (GToken.cs x) 0 ([(AV.int x.Kind)]) := Sub.head _ _
abbrev GToken.w0 (x : GToken) (y : Int) : GToken := { x with Kind := y }
theorem GToken.upd0 (x : GToken) (y : Int) : Upd (GToken.cs x) 0 ([(AV.int y)]) (GToken.cs { x with Kind := y }) := Upd.head (show ([(AV.int y)]).length = ([(AV.int x.Kind)]).length from rfl)
theorem GToken.sub1 (x : GToken) : Sub (GToken.cs x) 1 ([(AV.txt x.Text)]) := Sub.skip (k := 1) (show ([(AV.int x.Kind)]).length = 1 from rfl) (Sub.head _ _)
abbrev GToken.w1 (x : GToken) (y : List UInt8) : GToken := { x with Text := y }
theorem GToken.upd1 (x : GToken) (y : List UInt8) : Upd (GToken.cs x) 1 ([(AV.txt y)]) (GToken.cs { x with Text := y }) := Upd.skip (k := 1) (show ([(AV.int x.Kind)]).length = 1 from rfl) (Upd.head (show ([(AV.txt y)]).length = ([(AV.txt x.Text)]).length from rfl))
theorem GToken.sub2 (x : GToken) : Sub (GToken.cs x) 2 ([(AV.int x.Int_)]) := Sub.skip (k := 1) (show ([(AV.int x.Kind)]).length = 1 from rfl) (Sub.skip (k := 1) (show ([(AV.txt x.Text)]).length = 1 from rfl) (Sub.head _ _))
abbrev GToken.w2 (x : GToken) (y : Int) : GToken := { x with Int_ := y }
theorem GToken.upd2 (x : GToken) (y : Int) : Upd (GToken.cs x) 2 ([(AV.int y)]) (GToken.cs { x with Int_ := y }) := Upd.skip (k := 1) (show ([(AV.int x.Kind)]).length = 1 from rfl) (Upd.skip (k := 1) (show ([(AV.txt x.Text)]).length = 1 from rfl) (Upd.head (show ([(AV.int y)]).length = ([(AV.int x.Int_)]).length from rfl)))
theorem GToken.sub3 (x : GToken) : Sub (GToken.cs x) 3 ([(AV.u64 x.Bits)]) := Sub.skip (k := 1) (show ([(AV.int x.Kind)]).length = 1 from rfl) (Sub.skip (k := 1) (show ([(AV.txt x.Text)]).length = 1 from rfl) (Sub.skip (k := 1) (show ([(AV.int x.Int_)]).length = 1 from rfl) (Sub.refl _)))
abbrev GToken.w3 (x : GToken) (y : UInt64) : GToken := { x with Bits := y }
theorem GToken.upd3 (x : GToken) (y : UInt64) : Upd (GToken.cs x) 3 ([(AV.u64 y)]) (GToken.cs { x with Bits := y }) := Upd.skip (k := 1) (show ([(AV.int x.Kind)]).length = 1 from rfl) (Upd.skip (k := 1) (show ([(AV.txt x.Text)]).length = 1 from rfl) (Upd.skip (k := 1) (show ([(AV.int x.Int_)]).length = 1 from rfl) (Upd.refl (show ([(AV.u64 y)]).length = ([(AV.u64 x.Bits)]).length from rfl))))
theorem GToken.nl (x : GToken) : (GToken.cs x).all noLst1 = true := nlA rfl (nlA rfl (nlA rfl (rfl)))
structure GRange where
  Lo : Int
  Hi : Int
deriving DecidableEq, Inhabited
def GRange.zero : GRange := ⟨(0 : Int), (0 : Int)⟩
def GRange.cs (x : GRange) : List AV := ([(AV.int x.Lo)]) ++ ([(AV.int x.Hi)])
theorem GRange.len (x : GRange) : (GRange.cs x).length = 2 := by
  simp only [GRange.cs, List.length_append]
  rw [show ([(AV.int x.Lo)]).length = 1 from (show ([(AV.int x.Lo)]).length = 1 from rfl), show ([(AV.int x.Hi)]).length = 1 from (show ([(AV.int x.Hi)]).length = 1 from rfl)]
theorem GRange.sub0 (x : GRange) : Sub (GRange.cs x) 0 ([(AV.int x.Lo)]) := Sub.head _ _
abbrev GRange.w0 (x : GRange) (y : Int) : GRange := { x with Lo := y }
theorem GRange.upd0 (x : GRange) (y : Int) : Upd (GRange.cs x) 0 ([(AV.int y)]) (GRange.cs { x with Lo := y }) := Upd.head (show ([(AV.int y)]).length = ([(AV.int x.Lo)]).length from rfl)
theorem GRange.sub1 (x : GRange) : Sub (GRange.cs x) 1 ([(AV.int x.Hi)]) := Sub.skip (k := 1) (show ([(AV.int x.Lo)]).length = 1 from rfl) (Sub.refl _)
abbrev GRange.w1 (x : GRange) (y : Int) : GRange := { x with Hi := y }
theorem GRange.upd1 (x : GRange) (y : Int) : Upd (GRange.cs x) 1 ([(AV.int y)]) (GRange.cs { x with Hi := y }) := Upd.skip (k := 1) (show ([(AV.int x.Lo)]).length = 1 from rfl) (Upd.refl (show ([(AV.int y)]).length = ([(AV.int x.Hi)]).length from rfl))
theorem GRange.nl (x : GRange) : (GRange.cs x).all noLst1 = true := nlA rfl (rfl)
theorem in_24 : Info Tryd.prog 24 4 40 (.agg #[.int .i64 0, .int .i64 0, .int .u64 0, .string ⟨#[]⟩]) := by unfold Info; kernel_rfl
theorem one_24 : (.agg #[.int .i64 0, .int .i64 0, .int .u64 0, .string ⟨#[]⟩] : Value).cells.all (·.oneCell') = true := by kernel_rfl
theorem zc_24 : ((.agg #[.int .i64 0, .int .i64 0, .int .u64 0, .string ⟨#[]⟩] : Value).cells.toList.map zcell) = GValue.cs GValue.zero := by rfl
theorem pl_24 : placesOf Tryd.prog 24 = some [(0, 1), (1, 1), (2, 1), (3, 1)] := by kernel_rfl
theorem in_49 : Info Tryd.prog 49 4 40 (.agg #[.int .i64 0, .string ⟨#[]⟩, .int .i64 0, .int .u64 0]) := by unfold Info; kernel_rfl
theorem one_49 : (.agg #[.int .i64 0, .string ⟨#[]⟩, .int .i64 0, .int .u64 0] : Value).cells.all (·.oneCell') = true := by kernel_rfl
theorem zc_49 : ((.agg #[.int .i64 0, .string ⟨#[]⟩, .int .i64 0, .int .u64 0] : Value).cells.toList.map zcell) = GToken.cs GToken.zero := by rfl
theorem pl_49 : placesOf Tryd.prog 49 = some [(0, 1), (1, 1), (2, 1), (3, 1)] := by kernel_rfl
theorem in_29 : Info Tryd.prog 29 2 16 (.agg #[.int .i64 0, .int .i64 0]) := by unfold Info; kernel_rfl
theorem one_29 : (.agg #[.int .i64 0, .int .i64 0] : Value).cells.all (·.oneCell') = true := by kernel_rfl
theorem zc_29 : ((.agg #[.int .i64 0, .int .i64 0] : Value).cells.toList.map zcell) = GRange.cs GRange.zero := by rfl
theorem pl_29 : placesOf Tryd.prog 29 = some [(0, 1), (1, 1)] := by kernel_rfl
theorem eq_24 : EqT Tryd.prog 24 2 (fun x : GValue => .agg (GValue.cs x)) :=
  eqt_struct [fun a b => a.Kind = b.Kind, fun a b => a.Int_ = b.Int_, fun a b => a.Bits = b.Bits, fun a b => a.Text = b.Text] Tryd.underlying24 (by kernel_rfl) ⟨(FieldEq.more (fe_one (by decide) Tryd.underlying3 rfl (eqt_int Tryd.underlying3) (fun a => GValue.sub0 a)) (by decide : 1 ≤ 1)), (FieldEq.more (fe_one (by decide) Tryd.underlying3 rfl (eqt_int Tryd.underlying3) (fun a => GValue.sub1 a)) (by decide : 1 ≤ 1)), (FieldEq.more (fe_one (by decide) Tryd.underlying22 rfl (eqt_u64 Tryd.underlying22) (fun a => GValue.sub2 a)) (by decide : 1 ≤ 1)), (FieldEq.more (fe_one (by decide) Tryd.underlying9 rfl (eqt_txt Tryd.underlying9) (fun a => GValue.sub3 a)) (by decide : 1 ≤ 1)), trivial⟩ (fun a b => by
    cases a; cases b
    simp)

/-! lex.sign -/
noncomputable def g_lex_sign (t0 : List UInt8) : Option (Bool) :=
  ((if t0 = [40] then some (decide (t0 = [40])) else (if t0 = [41] then some (decide (t0 = [41])) else (if t0 = [44] then some (decide (t0 = [44])) else (if t0 = [46] then some (decide (t0 = [46])) else (if t0 = [61] then some (decide (t0 = [61])) else (if t0 = [60] then some (decide (t0 = [60])) else (if t0 = [62] then some (decide (t0 = [62])) else (if t0 = [60, 61] then some (decide (t0 = [60, 61])) else (if t0 = [62, 61] then some (decide (t0 = [62, 61])) else (if t0 = [60, 62] then some (decide (t0 = [60, 62])) else (if t0 = [43] then some (decide (t0 = [43])) else (if t0 = [45] then some (decide (t0 = [45])) else (if t0 = [42] then some (decide (t0 = [42])) else (if t0 = [47] then some (decide (t0 = [47])) else (if t0 = [124, 124] then some (decide (t0 = [124, 124])) else some (decide (t0 = [59])))))))))))))))))).bind fun j'1 => (if j'1 = true then some true else some false)
set_option maxHeartbeats 4000000 in
set_option maxRecDepth 100000 in
theorem g_lex_sign_ac {t0 : List UInt8} {r : Bool} (H : g_lex_sign t0 = some r) : ACp Tryd.prog 33 [(AV.txt t0)] (AV.bool r) := by
 refine ACp_of (AC2_of_body (vs := [.b r]) Tryd.func33 rfl rfl (Nat.le_of_ble_eq_true rfl) rfl ?_) (fun _ => .same _)
 unfold g_lex_sign at H
 refine as2 [(0, .t t0)] [] rfl rfl rfl ?_
 refine sg [0] rfl ?_
 refine rp rfl rfl (p_asg rfl rfl) ?_
 refine rz [(0, .t t0)] [] rfl rfl rfl ?_
 refine AW2_seq ?_
 refine sg [0] rfl ?_
 refine rp rfl rfl (p_move rfl rfl) ?_
 refine rz [(3, .t t0)] [] rfl rfl rfl ?_
 refine AW2_block ?_
 refine AW2_seq ?_
 refine bindK H fun j'1 h1 H => ?_
 refine AW2_mid (⟨[(4, .b j'1)], [], 21⟩ : TS) ?_ ?_
 ·clear H
  have H := h1
  clear h1
  refine sg [0, 1] rfl ?_
  refine rp rfl rfl (p_seq rfl rfl rfl) ?_
  refine rp rfl rfl (p_asg rfl rfl) ?_
  refine rz [(3, .t t0), (4, .b (decide (t0 = [40])))] [] rfl rfl rfl ?_
  refine AW2_if (p := t0 = [40]) rfl (fun h2 => ?_) (fun h2 => ?_)
  ·replace H := ite_then h2 H
   refine as2 [(4, .b (decide (t0 = [40])))] [] rfl rfl rfl ?_
   refine AW2_skip ?_
   have hz := some_elim H
   subst hz
   exact rfl
  ·replace H := ite_else h2 H
   refine sg [0, 1] rfl ?_
   refine rp rfl rfl (p_seq rfl rfl rfl) ?_
   refine rp rfl rfl (p_asg rfl rfl) ?_
   refine rz [(3, .t t0), (4, .b (decide (t0 = [41])))] [] rfl rfl rfl ?_
   refine AW2_if (p := t0 = [41]) rfl (fun h3 => ?_) (fun h3 => ?_)
   ·replace H := ite_then h3 H
    refine as2 [(4, .b (decide (t0 = [41])))] [] rfl rfl rfl ?_
    refine AW2_skip ?_
    have hz := some_elim H
    subst hz
    exact rfl
   ·replace H := ite_else h3 H
    refine sg [0, 1] rfl ?_
    refine rp rfl rfl (p_seq rfl rfl rfl) ?_
    refine rp rfl rfl (p_asg rfl rfl) ?_
    refine rz [(3, .t t0), (4, .b (decide (t0 = [44])))] [] rfl rfl rfl ?_
    refine AW2_if (p := t0 = [44]) rfl (fun h4 => ?_) (fun h4 => ?_)
    ·replace H := ite_then h4 H
     refine as2 [(4, .b (decide (t0 = [44])))] [] rfl rfl rfl ?_
     refine AW2_skip ?_
     have hz := some_elim H
     subst hz
     exact rfl
    ·replace H := ite_else h4 H
     refine sg [0, 1] rfl ?_
     refine rp rfl rfl (p_seq rfl rfl rfl) ?_
     refine rp rfl rfl (p_asg rfl rfl) ?_
     refine rz [(3, .t t0), (4, .b (decide (t0 = [46])))] [] rfl rfl rfl ?_
     refine AW2_if (p := t0 = [46]) rfl (fun h5 => ?_) (fun h5 => ?_)
     ·replace H := ite_then h5 H
      refine as2 [(4, .b (decide (t0 = [46])))] [] rfl rfl rfl ?_
      refine AW2_skip ?_
      have hz := some_elim H
      subst hz
      exact rfl
     ·replace H := ite_else h5 H
      refine sg [0, 1] rfl ?_
      refine rp rfl rfl (p_seq rfl rfl rfl) ?_
      refine rp rfl rfl (p_asg rfl rfl) ?_
      refine rz [(3, .t t0), (4, .b (decide (t0 = [61])))] [] rfl rfl rfl ?_
      refine AW2_if (p := t0 = [61]) rfl (fun h6 => ?_) (fun h6 => ?_)
      ·replace H := ite_then h6 H
       refine as2 [(4, .b (decide (t0 = [61])))] [] rfl rfl rfl ?_
       refine AW2_skip ?_
       have hz := some_elim H
       subst hz
       exact rfl
      ·replace H := ite_else h6 H
       refine sg [0, 1] rfl ?_
       refine rp rfl rfl (p_seq rfl rfl rfl) ?_
       refine rp rfl rfl (p_asg rfl rfl) ?_
       refine rz [(3, .t t0), (4, .b (decide (t0 = [60])))] [] rfl rfl rfl ?_
       refine AW2_if (p := t0 = [60]) rfl (fun h7 => ?_) (fun h7 => ?_)
       ·replace H := ite_then h7 H
        refine as2 [(4, .b (decide (t0 = [60])))] [] rfl rfl rfl ?_
        refine AW2_skip ?_
        have hz := some_elim H
        subst hz
        exact rfl
       ·replace H := ite_else h7 H
        refine sg [0, 1] rfl ?_
        refine rp rfl rfl (p_seq rfl rfl rfl) ?_
        refine rp rfl rfl (p_asg rfl rfl) ?_
        refine rz [(3, .t t0), (4, .b (decide (t0 = [62])))] [] rfl rfl rfl ?_
        refine AW2_if (p := t0 = [62]) rfl (fun h8 => ?_) (fun h8 => ?_)
        ·replace H := ite_then h8 H
         refine as2 [(4, .b (decide (t0 = [62])))] [] rfl rfl rfl ?_
         refine AW2_skip ?_
         have hz := some_elim H
         subst hz
         exact rfl
        ·replace H := ite_else h8 H
         refine sg [0, 1] rfl ?_
         refine rp rfl rfl (p_seq rfl rfl rfl) ?_
         refine rp rfl rfl (p_asg rfl rfl) ?_
         refine rz [(3, .t t0), (4, .b (decide (t0 = [60, 61])))] [] rfl rfl rfl ?_
         refine AW2_if (p := t0 = [60, 61]) rfl (fun h9 => ?_) (fun h9 => ?_)
         ·replace H := ite_then h9 H
          refine as2 [(4, .b (decide (t0 = [60, 61])))] [] rfl rfl rfl ?_
          refine AW2_skip ?_
          have hz := some_elim H
          subst hz
          exact rfl
         ·replace H := ite_else h9 H
          refine sg [0, 1] rfl ?_
          refine rp rfl rfl (p_seq rfl rfl rfl) ?_
          refine rp rfl rfl (p_asg rfl rfl) ?_
          refine rz [(3, .t t0), (4, .b (decide (t0 = [62, 61])))] [] rfl rfl rfl ?_
          refine AW2_if (p := t0 = [62, 61]) rfl (fun h10 => ?_) (fun h10 => ?_)
          ·replace H := ite_then h10 H
           refine as2 [(4, .b (decide (t0 = [62, 61])))] [] rfl rfl rfl ?_
           refine AW2_skip ?_
           have hz := some_elim H
           subst hz
           exact rfl
          ·replace H := ite_else h10 H
           refine sg [0, 1] rfl ?_
           refine rp rfl rfl (p_seq rfl rfl rfl) ?_
           refine rp rfl rfl (p_asg rfl rfl) ?_
           refine rz [(3, .t t0), (4, .b (decide (t0 = [60, 62])))] [] rfl rfl rfl ?_
           refine AW2_if (p := t0 = [60, 62]) rfl (fun h11 => ?_) (fun h11 => ?_)
           ·replace H := ite_then h11 H
            refine as2 [(4, .b (decide (t0 = [60, 62])))] [] rfl rfl rfl ?_
            refine AW2_skip ?_
            have hz := some_elim H
            subst hz
            exact rfl
           ·replace H := ite_else h11 H
            refine sg [0, 1] rfl ?_
            refine rp rfl rfl (p_seq rfl rfl rfl) ?_
            refine rp rfl rfl (p_asg rfl rfl) ?_
            refine rz [(3, .t t0), (4, .b (decide (t0 = [43])))] [] rfl rfl rfl ?_
            refine AW2_if (p := t0 = [43]) rfl (fun h12 => ?_) (fun h12 => ?_)
            ·replace H := ite_then h12 H
             refine as2 [(4, .b (decide (t0 = [43])))] [] rfl rfl rfl ?_
             refine AW2_skip ?_
             have hz := some_elim H
             subst hz
             exact rfl
            ·replace H := ite_else h12 H
             refine sg [0, 1] rfl ?_
             refine rp rfl rfl (p_seq rfl rfl rfl) ?_
             refine rp rfl rfl (p_asg rfl rfl) ?_
             refine rz [(3, .t t0), (4, .b (decide (t0 = [45])))] [] rfl rfl rfl ?_
             refine AW2_if (p := t0 = [45]) rfl (fun h13 => ?_) (fun h13 => ?_)
             ·replace H := ite_then h13 H
              refine as2 [(4, .b (decide (t0 = [45])))] [] rfl rfl rfl ?_
              refine AW2_skip ?_
              have hz := some_elim H
              subst hz
              exact rfl
             ·replace H := ite_else h13 H
              refine sg [0, 1] rfl ?_
              refine rp rfl rfl (p_seq rfl rfl rfl) ?_
              refine rp rfl rfl (p_asg rfl rfl) ?_
              refine rz [(3, .t t0), (4, .b (decide (t0 = [42])))] [] rfl rfl rfl ?_
              refine AW2_if (p := t0 = [42]) rfl (fun h14 => ?_) (fun h14 => ?_)
              ·replace H := ite_then h14 H
               refine as2 [(4, .b (decide (t0 = [42])))] [] rfl rfl rfl ?_
               refine AW2_skip ?_
               have hz := some_elim H
               subst hz
               exact rfl
              ·replace H := ite_else h14 H
               refine sg [0, 1] rfl ?_
               refine rp rfl rfl (p_seq rfl rfl rfl) ?_
               refine rp rfl rfl (p_asg rfl rfl) ?_
               refine rz [(3, .t t0), (4, .b (decide (t0 = [47])))] [] rfl rfl rfl ?_
               refine AW2_if (p := t0 = [47]) rfl (fun h15 => ?_) (fun h15 => ?_)
               ·replace H := ite_then h15 H
                refine as2 [(4, .b (decide (t0 = [47])))] [] rfl rfl rfl ?_
                refine AW2_skip ?_
                have hz := some_elim H
                subst hz
                exact rfl
               ·replace H := ite_else h15 H
                refine sg [0, 1] rfl ?_
                refine rp rfl rfl (p_seq rfl rfl rfl) ?_
                refine rp rfl rfl (p_asg rfl rfl) ?_
                refine rz [(3, .t t0), (4, .b (decide (t0 = [124, 124])))] [] rfl rfl rfl ?_
                refine AW2_if (p := t0 = [124, 124]) rfl (fun h16 => ?_) (fun h16 => ?_)
                ·replace H := ite_then h16 H
                 refine as2 [(4, .b (decide (t0 = [124, 124])))] [] rfl rfl rfl ?_
                 refine AW2_skip ?_
                 have hz := some_elim H
                 subst hz
                 exact rfl
                ·replace H := ite_else h16 H
                 refine AW2_reg [0, 1] rfl ?_
                 refine rp rfl rfl (p_seq rfl rfl rfl) ?_
                 refine rp rfl rfl (p_asg rfl rfl) ?_
                 refine rz [(4, .b (decide (t0 = [59])))] [] rfl rfl rfl ?_
                 have hz := some_elim H
                 subst hz
                 exact rfl
 ·refine AW2_cond rfl (fun h17 => ?_) (fun h17 => ?_)
  ·replace H := ite_then h17 H
   refine sg [0] rfl ?_
   refine rp rfl rfl (p_asg rfl rfl) ?_
   refine rz [(2, .b true)] [] rfl rfl rfl ?_
   refine AW2_ret ?_
   have hz := some_elim H
   subst hz
   exact ⟨⟨res_tmp (.same _), trivial⟩, trivial⟩
  ·replace H := ite_else (ne_true h17) H
   refine as2 [] [] rfl rfl rfl ?_
   refine AW2_skip ?_
   refine sg [0] rfl ?_
   refine rp rfl rfl (p_asg rfl rfl) ?_
   refine rz [(2, .b false)] [] rfl rfl rfl ?_
   refine AW2_ret ?_
   have hz := some_elim H
   subst hz
   exact ⟨⟨res_tmp (.same _), trivial⟩, trivial⟩

/-! lex.all -/
noncomputable def g_lex_all_i0_l0 (s0 : List UInt8) : Int → Option (Int ⊕ (Bool ⊕ Unit))
  | t8_0 => (if t8_0 < (s0.length : Int) then if 0 ≤ t8_0 ∧ t8_0 < (s0.length : Int) then (g_lex_inName (lrd s0 t8_0.toNat)).bind fun r'1 => (if (!r'1) = true then some (.inr (.inl false)) else some (.inl (w64 (t8_0 + (1 : Int))))) else none else some (.inr (.inr ())))
noncomputable def g_lex_all_i0 (s0 : List UInt8) : Option (Bool) :=
  (loopO (g_lex_all_i0_l0 s0) (0 : Int)).bind fun o'5 => match o'5 with | .inl y'6 => some y'6 | .inr (y'7) => some (decide (s0 ≠ []))
set_option maxHeartbeats 4000000 in
set_option maxRecDepth 100000 in
theorem g_lex_all_i0_ac {s0 : List UInt8} {r : Bool} (H : g_lex_all_i0 s0 = some r) : ACp Tryd.prog 29 [(AV.txt s0), .clo 30 []] (AV.bool r) := by
 refine ACp_of (AC2_of_body (vs := [.b r]) Tryd.func29 rfl rfl (Nat.le_of_ble_eq_true rfl) rfl ?_) (fun _ => .same _)
 unfold g_lex_all_i0 at H
 refine AW2_st [(0, .t s0), (1, .clo 30 [])] [] rfl ⟨TLes.same _, (fun _ => .same _), trivial⟩ trivial ?_
 refine sg [0] rfl ?_
 refine rp rfl rfl (p_asg rfl rfl) ?_
 refine RunW_st [(0, .t s0), (1, .clo 30 [])] [] rfl ⟨TLes.same _, (fun _ => .same _), trivial⟩ trivial ?_
 refine RunW_nil ?_
 refine AW2_seq ?_
 refine sg [0, 1, 2] rfl ?_
 refine rp rfl rfl (p_move rfl rfl) ?_
 refine rp rfl rfl (p_lent rfl Tryd.underlying9 rfl) ?_
 refine rp rfl rfl (p_move rfl rfl) ?_
 refine RunW_st [(0, .t s0), (1, .clo 30 []), (7, .i (s0.length : Int)), (8, .i (0 : Int))] [] rfl ⟨TLes.same _, (fun _ => .same _), TLes.same _, TLes.same _, trivial⟩ trivial ?_
 refine RunW_nil ?_
 refine AW2_block ?_
 refine AW2_st [(0, .t s0), (1, .clo 30 []), (7, .i (s0.length : Int)), (8, .i (0 : Int))] [] rfl ⟨TLes.same _, (fun _ => .same _), TLes.same _, TLes.same _, trivial⟩ trivial ?_
 refine bindK H fun o'5 h5 H => ?_
 refine AW2_loopO (fun a'2 : Int => (⟨[(0, .t s0), (1, .clo 30 []), (7, .i (s0.length : Int)), (8, .i a'2)], [], 20⟩ : TS)) (fun (o : Bool ⊕ Unit) e s' => match o with | .inl y'3 => e = Go.Exit.ret ∧ ResAll Tryd.prog s' [ResultVar.tmp 4] [.b y'3] ∧ HFits s' [] | .inr (y'4) => e = Go.Exit.exit 0 ∧ s' = (⟨[(0, .t s0)], [], 20⟩ : TS)) h5 rfl (fun t8_0 x hx => ?_) (fun e s' hs => ?_)
 ·clear H
  have H := hx
  clear hx
  unfold g_lex_all_i0_l0 at H
  refine sg [0] rfl ?_
  refine rp rfl rfl (p_bin rfl rfl rfl rfl) ?_
  refine RunW_st [(0, .t s0), (1, .clo 30 []), (7, .i (s0.length : Int)), (8, .i t8_0), (9, .b (decide (t8_0 < (s0.length : Int))))] [] rfl ⟨TLes.same _, (fun _ => .same _), TLes.same _, TLes.same _, TLes.same _, trivial⟩ trivial ?_
  refine RunW_nil ?_
  refine AW2_seq ?_
  refine AW2_if (p := t8_0 < (s0.length : Int)) rfl (fun h1 => ?_) (fun h1 => ?_)
  ·replace H := ite_then h1 H
   refine AW2_st [(0, .t s0), (1, .clo 30 []), (7, .i (s0.length : Int)), (8, .i t8_0)] [] rfl ⟨TLes.same _, (fun _ => .same _), TLes.same _, TLes.same _, trivial⟩ trivial ?_
   refine AW2_skip ?_
   refine AW2_seq ?_
   refine AW2_block ?_
   refine sg [0, 1] rfl ?_
   refine rp rfl rfl (p_move rfl rfl) ?_
   refine rp rfl rfl (p_asg rfl rfl) ?_
   refine RunW_st [(0, .t s0), (1, .clo 30 []), (5, .i t8_0), (7, .i (s0.length : Int)), (8, .i t8_0)] [] rfl ⟨TLes.same _, (fun _ => .same _), TLes.same _, TLes.same _, TLes.same _, trivial⟩ trivial ?_
   refine RunW_nil ?_
   refine sg [0, 1, 2, 3, 4, 5] rfl ?_
   refine rp rfl rfl (p_move rfl rfl) ?_
   refine rp rfl rfl (p_move rfl rfl) ?_
   refine rp rfl rfl (p_move rfl rfl) ?_
   refine chkK H fun h2 H => ?_
   refine rp rfl rfl (p_ixt rfl Tryd.underlying9 rfl rfl (ixe h2) (lrd_get (ixn h2))) ?_
   refine bindK H fun r'1 h3 H => ?_
   refine rp rfl rfl (p_callp rfl rfl rfl Tryd.func30 rfl rfl (g_lex_inName_ac h3) ⟨rfl, trivial⟩) ?_
   refine rp rfl rfl (p_not rfl rfl) ?_
   refine RunW_st [(0, .t s0), (1, .clo 30 []), (7, .i (s0.length : Int)), (8, .i t8_0), (16, .b (!r'1))] [] rfl ⟨TLes.same _, (fun _ => .same _), TLes.same _, TLes.same _, TLes.same _, trivial⟩ trivial ?_
   refine RunW_nil ?_
   refine AW2_cond rfl (fun h4 => ?_) (fun h4 => ?_)
   ·replace H := ite_then h4 H
    refine sg [0] rfl ?_
    refine rp rfl rfl (p_asg rfl rfl) ?_
    refine rz [(4, .b false)] [] rfl rfl rfl ?_
    refine AW2_ret ?_
    have hz := some_elim H
    subst hz
    exact ⟨rfl, ⟨res_tmp (.same _), trivial⟩, trivial⟩
   ·replace H := ite_else (ne_true h4) H
    refine AW2_st [(0, .t s0), (1, .clo 30 []), (7, .i (s0.length : Int)), (8, .i t8_0)] [] rfl ⟨TLes.same _, (fun _ => .same _), TLes.same _, TLes.same _, trivial⟩ trivial ?_
    refine AW2_skip ?_
    refine AW2_reg [0, 1] rfl ?_
    refine rp rfl rfl (p_bin rfl rfl rfl rfl) ?_
    refine rp rfl rfl (p_move rfl rfl) ?_
    refine RunW_st [(0, .t s0), (1, .clo 30 []), (7, .i (s0.length : Int)), (8, .i (w64 (t8_0 + (1 : Int))))] [] rfl ⟨TLes.same _, (fun _ => .same _), TLes.same _, TLes.same _, trivial⟩ trivial ?_
    refine RunW_nil ?_
    have hz := some_elim H
    subst hz
    exact ⟨rfl, rfl⟩
  ·replace H := ite_else h1 H
   refine as2 [(0, .t s0)] [] rfl rfl rfl ?_
   refine AW2_exit ?_
   refine thenQ2_exit ?_
   have hz := some_elim H
   subst hz
   exact ⟨rfl, rfl⟩
 ·rcases o'5 with y'6 | y'7
  ·obtain ⟨rfl, hs⟩ := hs
   refine ⟨by simp, ?_⟩
   have hz := some_elim H
   subst hz
   exact ⟨hs.1, hs.2⟩
  ·obtain ⟨rfl, rfl⟩ := hs
   refine ⟨by simp, ?_⟩
   refine blockQ2_exit ?_
   refine sg [0, 1, 2] rfl ?_
   refine rp rfl rfl (p_move rfl rfl) ?_
   refine rp rfl rfl (p_sne rfl rfl rfl) ?_
   refine rp rfl rfl (p_asg rfl rfl) ?_
   refine rz [(4, .b (decide (s0 ≠ [])))] [] rfl rfl rfl ?_
   refine AW2_ret ?_
   have hz := some_elim H
   subst hz
   exact ⟨⟨res_tmp (.same _), trivial⟩, trivial⟩

/-! lex.all -/
noncomputable def g_lex_all_i1_l0 (s0 : List UInt8) : Int → Option (Int ⊕ (Bool ⊕ Unit))
  | t8_0 => (if t8_0 < (s0.length : Int) then if 0 ≤ t8_0 ∧ t8_0 < (s0.length : Int) then (g_lex_great (lrd s0 t8_0.toNat)).bind fun r'1 => (if (!r'1) = true then some (.inr (.inl false)) else some (.inl (w64 (t8_0 + (1 : Int))))) else none else some (.inr (.inr ())))
noncomputable def g_lex_all_i1 (s0 : List UInt8) : Option (Bool) :=
  (loopO (g_lex_all_i1_l0 s0) (0 : Int)).bind fun o'5 => match o'5 with | .inl y'6 => some y'6 | .inr (y'7) => some (decide (s0 ≠ []))
set_option maxHeartbeats 4000000 in
set_option maxRecDepth 100000 in
theorem g_lex_all_i1_ac {s0 : List UInt8} {r : Bool} (H : g_lex_all_i1 s0 = some r) : ACp Tryd.prog 29 [(AV.txt s0), .clo 32 []] (AV.bool r) := by
 refine ACp_of (AC2_of_body (vs := [.b r]) Tryd.func29 rfl rfl (Nat.le_of_ble_eq_true rfl) rfl ?_) (fun _ => .same _)
 unfold g_lex_all_i1 at H
 refine AW2_st [(0, .t s0), (1, .clo 32 [])] [] rfl ⟨TLes.same _, (fun _ => .same _), trivial⟩ trivial ?_
 refine sg [0] rfl ?_
 refine rp rfl rfl (p_asg rfl rfl) ?_
 refine RunW_st [(0, .t s0), (1, .clo 32 [])] [] rfl ⟨TLes.same _, (fun _ => .same _), trivial⟩ trivial ?_
 refine RunW_nil ?_
 refine AW2_seq ?_
 refine sg [0, 1, 2] rfl ?_
 refine rp rfl rfl (p_move rfl rfl) ?_
 refine rp rfl rfl (p_lent rfl Tryd.underlying9 rfl) ?_
 refine rp rfl rfl (p_move rfl rfl) ?_
 refine RunW_st [(0, .t s0), (1, .clo 32 []), (7, .i (s0.length : Int)), (8, .i (0 : Int))] [] rfl ⟨TLes.same _, (fun _ => .same _), TLes.same _, TLes.same _, trivial⟩ trivial ?_
 refine RunW_nil ?_
 refine AW2_block ?_
 refine AW2_st [(0, .t s0), (1, .clo 32 []), (7, .i (s0.length : Int)), (8, .i (0 : Int))] [] rfl ⟨TLes.same _, (fun _ => .same _), TLes.same _, TLes.same _, trivial⟩ trivial ?_
 refine bindK H fun o'5 h5 H => ?_
 refine AW2_loopO (fun a'2 : Int => (⟨[(0, .t s0), (1, .clo 32 []), (7, .i (s0.length : Int)), (8, .i a'2)], [], 20⟩ : TS)) (fun (o : Bool ⊕ Unit) e s' => match o with | .inl y'3 => e = Go.Exit.ret ∧ ResAll Tryd.prog s' [ResultVar.tmp 4] [.b y'3] ∧ HFits s' [] | .inr (y'4) => e = Go.Exit.exit 0 ∧ s' = (⟨[(0, .t s0)], [], 20⟩ : TS)) h5 rfl (fun t8_0 x hx => ?_) (fun e s' hs => ?_)
 ·clear H
  have H := hx
  clear hx
  unfold g_lex_all_i1_l0 at H
  refine sg [0] rfl ?_
  refine rp rfl rfl (p_bin rfl rfl rfl rfl) ?_
  refine RunW_st [(0, .t s0), (1, .clo 32 []), (7, .i (s0.length : Int)), (8, .i t8_0), (9, .b (decide (t8_0 < (s0.length : Int))))] [] rfl ⟨TLes.same _, (fun _ => .same _), TLes.same _, TLes.same _, TLes.same _, trivial⟩ trivial ?_
  refine RunW_nil ?_
  refine AW2_seq ?_
  refine AW2_if (p := t8_0 < (s0.length : Int)) rfl (fun h1 => ?_) (fun h1 => ?_)
  ·replace H := ite_then h1 H
   refine AW2_st [(0, .t s0), (1, .clo 32 []), (7, .i (s0.length : Int)), (8, .i t8_0)] [] rfl ⟨TLes.same _, (fun _ => .same _), TLes.same _, TLes.same _, trivial⟩ trivial ?_
   refine AW2_skip ?_
   refine AW2_seq ?_
   refine AW2_block ?_
   refine sg [0, 1] rfl ?_
   refine rp rfl rfl (p_move rfl rfl) ?_
   refine rp rfl rfl (p_asg rfl rfl) ?_
   refine RunW_st [(0, .t s0), (1, .clo 32 []), (5, .i t8_0), (7, .i (s0.length : Int)), (8, .i t8_0)] [] rfl ⟨TLes.same _, (fun _ => .same _), TLes.same _, TLes.same _, TLes.same _, trivial⟩ trivial ?_
   refine RunW_nil ?_
   refine sg [0, 1, 2, 3, 4, 5] rfl ?_
   refine rp rfl rfl (p_move rfl rfl) ?_
   refine rp rfl rfl (p_move rfl rfl) ?_
   refine rp rfl rfl (p_move rfl rfl) ?_
   refine chkK H fun h2 H => ?_
   refine rp rfl rfl (p_ixt rfl Tryd.underlying9 rfl rfl (ixe h2) (lrd_get (ixn h2))) ?_
   refine bindK H fun r'1 h3 H => ?_
   refine rp rfl rfl (p_callp rfl rfl rfl Tryd.func32 rfl rfl (g_lex_great_ac h3) ⟨rfl, trivial⟩) ?_
   refine rp rfl rfl (p_not rfl rfl) ?_
   refine RunW_st [(0, .t s0), (1, .clo 32 []), (7, .i (s0.length : Int)), (8, .i t8_0), (16, .b (!r'1))] [] rfl ⟨TLes.same _, (fun _ => .same _), TLes.same _, TLes.same _, TLes.same _, trivial⟩ trivial ?_
   refine RunW_nil ?_
   refine AW2_cond rfl (fun h4 => ?_) (fun h4 => ?_)
   ·replace H := ite_then h4 H
    refine sg [0] rfl ?_
    refine rp rfl rfl (p_asg rfl rfl) ?_
    refine rz [(4, .b false)] [] rfl rfl rfl ?_
    refine AW2_ret ?_
    have hz := some_elim H
    subst hz
    exact ⟨rfl, ⟨res_tmp (.same _), trivial⟩, trivial⟩
   ·replace H := ite_else (ne_true h4) H
    refine AW2_st [(0, .t s0), (1, .clo 32 []), (7, .i (s0.length : Int)), (8, .i t8_0)] [] rfl ⟨TLes.same _, (fun _ => .same _), TLes.same _, TLes.same _, trivial⟩ trivial ?_
    refine AW2_skip ?_
    refine AW2_reg [0, 1] rfl ?_
    refine rp rfl rfl (p_bin rfl rfl rfl rfl) ?_
    refine rp rfl rfl (p_move rfl rfl) ?_
    refine RunW_st [(0, .t s0), (1, .clo 32 []), (7, .i (s0.length : Int)), (8, .i (w64 (t8_0 + (1 : Int))))] [] rfl ⟨TLes.same _, (fun _ => .same _), TLes.same _, TLes.same _, trivial⟩ trivial ?_
    refine RunW_nil ?_
    have hz := some_elim H
    subst hz
    exact ⟨rfl, rfl⟩
  ·replace H := ite_else h1 H
   refine as2 [(0, .t s0)] [] rfl rfl rfl ?_
   refine AW2_exit ?_
   refine thenQ2_exit ?_
   have hz := some_elim H
   subst hz
   exact ⟨rfl, rfl⟩
 ·rcases o'5 with y'6 | y'7
  ·obtain ⟨rfl, hs⟩ := hs
   refine ⟨by simp, ?_⟩
   have hz := some_elim H
   subst hz
   exact ⟨hs.1, hs.2⟩
  ·obtain ⟨rfl, rfl⟩ := hs
   refine ⟨by simp, ?_⟩
   refine blockQ2_exit ?_
   refine sg [0, 1, 2] rfl ?_
   refine rp rfl rfl (p_move rfl rfl) ?_
   refine rp rfl rfl (p_sne rfl rfl rfl) ?_
   refine rp rfl rfl (p_asg rfl rfl) ?_
   refine rz [(4, .b (decide (s0 ≠ [])))] [] rfl rfl rfl ?_
   refine AW2_ret ?_
   have hz := some_elim H
   subst hz
   exact ⟨⟨res_tmp (.same _), trivial⟩, trivial⟩

/-! lex.Check -/
noncomputable def g_lex_Check (t0 : GToken) : Option (Int) :=
  (if (t0.Kind < (1 : Int)) ∨ (t0.Kind > (6 : Int)) then some (2 : Int) else letO (decide (((t0.Kind = (4 : Int)) ∧ ((t0.Text.length : Int) > (40 : Int))) ∨ (((t0.Kind = (1 : Int)) ∨ (t0.Kind = (2 : Int))) ∧ ((t0.Text.length : Int) > (8 : Int))))) fun t36'1 => (if t36'1 = true then some (1 : Int) else letO (decide ((((t0.Kind ≠ (3 : Int)) ∧ (t0.Int_ ≠ (0 : Int))) ∨ ((t0.Kind ≠ (5 : Int)) ∧ (t0.Bits ≠ (0 : UInt64)))) ∨ (((t0.Kind = (3 : Int)) ∨ (t0.Kind = (5 : Int))) ∧ (t0.Text ≠ [])))) fun t69'2 => (if t69'2 = true then some (3 : Int) else ((if t0.Kind = (1 : Int) then ((g_lex_all_i0 t0.Text).bind fun r'5 => (if r'5 = true then if 0 < t0.Text.length then (g_lex_small (lrd t0.Text 0)).bind fun r'6 => some r'6 else none else some false)).bind fun g'7 => some g'7 else (if t0.Kind = (2 : Int) then (g_lex_all_i1 t0.Text).bind fun r'8 => some r'8 else (if t0.Kind = (3 : Int) then some (decide (t0.Int_ ≥ (0 : Int))) else (if t0.Kind = (4 : Int) then (g_utf8_ValidString t0.Text).bind fun r'9 => some r'9 else (if t0.Kind = (5 : Int) then (g_value_Check ({ { GValue.zero with Kind := (3 : Int) } with Bits := t0.Bits })).bind fun r'10 => some (decide (r'10 = (0 : Int))) else (if t0.Kind = (6 : Int) then (g_lex_sign t0.Text).bind fun r'11 => some r'11 else some true))))))).bind fun j'3 => (if (!j'3) = true then some (3 : Int) else some (0 : Int)))))
set_option maxHeartbeats 4000000 in
set_option maxRecDepth 100000 in
theorem g_lex_Check_ac {t0 : GToken} {r : Int} (H : g_lex_Check t0 = some r) : ACp Tryd.prog 23 [(.agg (GToken.cs t0))] (AV.int r) := by
 refine ACp_of (AC2_of_body (vs := [.i r]) Tryd.func23 rfl rfl (Nat.le_of_ble_eq_true rfl) rfl ?_) (fun _ => .same _)
 unfold g_lex_Check at H
 refine as2 [(0, .g (GToken.cs t0))] [] rfl rfl rfl ?_
 refine sg [0, 1] rfl ?_
 refine r_op rfl rfl (MakeD.opD (n_box 1 rfl rfl) rfl rfl rfl rfl) ?_
 refine rp rfl rfl (p_asg rfl rfl) ?_
 refine rz [(1, .q 1 (0))] [(1, .pure (GToken.cs t0))] rfl rfl rfl ?_
 refine AW2_seq ?_
 refine AW2_seq ?_
 refine AW2_mid (⟨[(1, .q 1 (0)), (11, .b (decide ((t0.Kind < (1 : Int)) ∨ (t0.Kind > (6 : Int)))))], [(1, .pure (GToken.cs t0))], 112⟩ : TS) ?_ ?_
 ·refine AW2_reg [0, 1, 2, 3, 4, 5, 6, 7] rfl ?_
  refine rp rfl rfl (u_fa rfl rfl Tryd.underlying49 rfl in_3 (Nat.succ_ne_zero _) rfl rfl (ne_of_lt (n := 0) (Nat.lt_of_lt_of_eq (by decide) (Eq.symm (GToken.len t0))))) ?_
  refine rp rfl rfl (u_ld rfl rfl Tryd.underlying3 rfl rfl ((Sub.refl _).trans (GToken.sub0 t0))) ?_
  refine rp rfl rfl (p_bin rfl rfl rfl rfl) ?_
  refine rp rfl rfl (p_move rfl rfl) ?_
  refine (Classical.em (t0.Kind < (1 : Int))).elim (fun h1 => ?_) (fun h1 => ?_)
  ·iterate 3 (refine r_off rfl rfl rfl rfl (decide_eq_true h1) rfl rfl ?_)
   refine rp rfl rfl (p_pkt rfl rfl (decide_eq_true h1) (tb (decide_eq_true (p := (t0.Kind < (1 : Int)) ∨ (t0.Kind > (6 : Int))) (Or.inl h1)).symm)) ?_
   refine rs [(1, .q 1 (0)), (11, .b (decide ((t0.Kind < (1 : Int)) ∨ (t0.Kind > (6 : Int)))))] [(1, .pure (GToken.cs t0))] rfl rfl rfl ?_
   exact RunW_nil rfl
  ·refine r_on rfl rfl rfl rfl (decide_eq_false h1) rfl (PureD.opD (u_fa rfl rfl Tryd.underlying49 rfl in_3 (Nat.succ_ne_zero _) rfl rfl (ne_of_lt (n := 0) (Nat.lt_of_lt_of_eq (by decide) (Eq.symm (GToken.len t0)))))) ?_
   refine r_on rfl rfl rfl rfl (decide_eq_false h1) rfl (PureD.opD (u_ld rfl rfl Tryd.underlying3 rfl rfl ((Sub.refl _).trans (GToken.sub0 t0)))) ?_
   refine r_on rfl rfl rfl rfl (decide_eq_false h1) rfl (PureD.opD (p_bin rfl rfl rfl rfl)) ?_
   refine rp rfl rfl (p_pkf rfl rfl (decide_eq_false h1) (tb ((or_l (p := t0.Kind < (1 : Int)) (q := t0.Kind > (6 : Int)) h1)))) ?_
   refine rs [(1, .q 1 (0)), (11, .b (decide ((t0.Kind < (1 : Int)) ∨ (t0.Kind > (6 : Int)))))] [(1, .pure (GToken.cs t0))] rfl rfl rfl ?_
   exact RunW_nil rfl
 ·refine AW2_if (p := (t0.Kind < (1 : Int)) ∨ (t0.Kind > (6 : Int))) rfl (fun h2 => ?_) (fun h2 => ?_)
  ·replace H := ite_then h2 H
   refine sg [0] rfl ?_
   refine rp rfl rfl (p_asg rfl rfl) ?_
   refine rz [(2, .i (2 : Int))] [] rfl rfl rfl ?_
   refine AW2_ret ?_
   have hz := some_elim H
   subst hz
   exact ⟨⟨res_tmp (.same _), trivial⟩, trivial⟩
  ·replace H := ite_else h2 H
   refine as2 [(1, .q 1 (0))] [(1, .pure (GToken.cs t0))] rfl rfl rfl ?_
   refine AW2_skip ?_
   refine AW2_seq ?_
   refine AW2_seq ?_
   refine AW2_mid (⟨[(1, .q 1 (0)), (36, .b (decide (((t0.Kind = (4 : Int)) ∧ ((t0.Text.length : Int) > (40 : Int))) ∨ (((t0.Kind = (1 : Int)) ∨ (t0.Kind = (2 : Int))) ∧ ((t0.Text.length : Int) > (8 : Int))))))], [(1, .pure (GToken.cs t0))], 112⟩ : TS) ?_ ?_
   ·refine AW2_reg [0, 1, 2, 3, 4, 5, 6, 7, 8, 9, 10, 11, 12, 13, 14, 15, 16, 17, 18, 19, 20, 21, 22, 23, 24] rfl ?_
    refine rp rfl rfl (u_fa rfl rfl Tryd.underlying49 rfl in_3 (Nat.succ_ne_zero _) rfl rfl (ne_of_lt (n := 0) (Nat.lt_of_lt_of_eq (by decide) (Eq.symm (GToken.len t0))))) ?_
    refine rp rfl rfl (u_ld rfl rfl Tryd.underlying3 rfl rfl ((Sub.refl _).trans (GToken.sub0 t0))) ?_
    refine rp rfl rfl (p_ieq rfl rfl rfl) ?_
    refine rp rfl rfl (p_move rfl rfl) ?_
    refine (Classical.em (t0.Kind = (4 : Int))).elim (fun h3 => ?_) (fun h3 => ?_)
    ·refine r_on rfl rfl rfl rfl (decide_eq_true h3) rfl (PureD.opD (u_fa rfl rfl Tryd.underlying49 rfl in_9 (Nat.succ_ne_zero _) rfl rfl (ne_of_lt (n := 0) (Nat.lt_of_lt_of_eq (by decide) (Eq.symm (GToken.len t0)))))) ?_
     refine r_on rfl rfl rfl rfl (decide_eq_true h3) rfl (PureD.opD (u_ld rfl rfl Tryd.underlying9 rfl rfl ((Sub.refl _).trans (GToken.sub1 t0)))) ?_
     refine r_on rfl rfl rfl rfl (decide_eq_true h3) rfl (PureD.opD (p_lent rfl Tryd.underlying9 rfl)) ?_
     refine r_on rfl rfl rfl rfl (decide_eq_true h3) rfl (PureD.opD (p_bin rfl rfl rfl rfl)) ?_
     refine rp rfl rfl (p_pkt rfl rfl (decide_eq_true h3) (tb ((and_l (p := t0.Kind = (4 : Int)) (q := (t0.Text.length : Int) > (40 : Int)) h3)))) ?_
     refine rp rfl rfl (p_move rfl rfl) ?_
     refine (Classical.em ((t0.Text.length : Int) > (40 : Int))).elim (fun h4 => ?_) (fun h4 => ?_)
     ·have qq1 := decide_eq_true (p := (t0.Kind = (4 : Int)) ∧ ((t0.Text.length : Int) > (40 : Int))) ⟨h3, h4⟩
      iterate 4 (refine r_off rfl rfl rfl rfl qq1 rfl rfl ?_)
      iterate 3 (refine r_off2 rfl rfl rfl rfl rfl rfl ?_)
      iterate 2 (refine r_off rfl rfl rfl rfl qq1 rfl rfl ?_)
      iterate 4 (refine r_off2 rfl rfl rfl rfl rfl rfl ?_)
      refine r_off rfl rfl rfl rfl qq1 rfl rfl ?_
      refine rp rfl rfl (p_pkt rfl rfl qq1 (tb (decide_eq_true (p := ((t0.Kind = (4 : Int)) ∧ ((t0.Text.length : Int) > (40 : Int))) ∨ (((t0.Kind = (1 : Int)) ∨ (t0.Kind = (2 : Int))) ∧ ((t0.Text.length : Int) > (8 : Int)))) (Or.inl ⟨h3, h4⟩)).symm)) ?_
      refine rs [(1, .q 1 (0)), (36, .b (decide (((t0.Kind = (4 : Int)) ∧ ((t0.Text.length : Int) > (40 : Int))) ∨ (((t0.Kind = (1 : Int)) ∨ (t0.Kind = (2 : Int))) ∧ ((t0.Text.length : Int) > (8 : Int))))))] [(1, .pure (GToken.cs t0))] rfl rfl rfl ?_
      exact RunW_nil rfl
     ·have qq2 := decide_eq_false (p := (t0.Kind = (4 : Int)) ∧ ((t0.Text.length : Int) > (40 : Int))) (fun h => h4 h.2)
      refine rn rfl rfl rfl rfl qq2 rfl (u_fa rfl rfl Tryd.underlying49 rfl in_3 (Nat.succ_ne_zero _) rfl rfl (ne_of_lt (n := 0) (Nat.lt_of_lt_of_eq (by decide) (Eq.symm (GToken.len t0))))) ?_
      refine rn rfl rfl rfl rfl qq2 rfl (u_ld rfl rfl Tryd.underlying3 rfl rfl ((Sub.refl _).trans (GToken.sub0 t0))) ?_
      refine rn rfl rfl rfl rfl qq2 rfl (p_ieq rfl rfl rfl) ?_
      refine rn rfl rfl rfl rfl qq2 rfl (p_move rfl rfl) ?_
      refine (Classical.em (t0.Kind = (1 : Int))).elim (fun h5 => ?_) (fun h5 => ?_)
      ·iterate 3 (refine r_off rfl rfl rfl rfl (decide_eq_true h5) rfl rfl ?_)
       have qq3 := decide_eq_true (p := (t0.Kind = (1 : Int)) ∨ (t0.Kind = (2 : Int))) (Or.inl h5)
       refine rn rfl rfl rfl rfl qq2 rfl (p_pkt rfl rfl (decide_eq_true h5) (tb qq3.symm)) ?_
       refine rn rfl rfl rfl rfl qq2 rfl (p_move rfl rfl) ?_
       refine rn rfl rfl rfl rfl qq3 rfl (u_fa rfl rfl Tryd.underlying49 rfl in_9 (Nat.succ_ne_zero _) rfl rfl (ne_of_lt (n := 0) (Nat.lt_of_lt_of_eq (by decide) (Eq.symm (GToken.len t0))))) ?_
       refine rn rfl rfl rfl rfl qq3 rfl (u_ld rfl rfl Tryd.underlying9 rfl rfl ((Sub.refl _).trans (GToken.sub1 t0))) ?_
       refine rn rfl rfl rfl rfl qq3 rfl (p_lent rfl Tryd.underlying9 rfl) ?_
       refine rn rfl rfl rfl rfl qq3 rfl (p_bin rfl rfl rfl rfl) ?_
       refine rn rfl rfl rfl rfl qq2 rfl (p_pkt rfl rfl qq3 (tb ((and_l (p := (t0.Kind = (1 : Int)) ∨ (t0.Kind = (2 : Int))) (q := (t0.Text.length : Int) > (8 : Int)) (Or.inl h5))))) ?_
       refine rp rfl rfl (p_pkf rfl rfl qq2 (tb ((or_l (p := (t0.Kind = (4 : Int)) ∧ ((t0.Text.length : Int) > (40 : Int))) (q := ((t0.Kind = (1 : Int)) ∨ (t0.Kind = (2 : Int))) ∧ ((t0.Text.length : Int) > (8 : Int))) (fun h => h4 h.2))))) ?_
       refine rs [(1, .q 1 (0)), (36, .b (decide (((t0.Kind = (4 : Int)) ∧ ((t0.Text.length : Int) > (40 : Int))) ∨ (((t0.Kind = (1 : Int)) ∨ (t0.Kind = (2 : Int))) ∧ ((t0.Text.length : Int) > (8 : Int))))))] [(1, .pure (GToken.cs t0))] rfl rfl rfl ?_
       exact RunW_nil rfl
      ·refine r_on rfl rfl rfl rfl (decide_eq_false h5) rfl (PureD.opD (u_fa rfl rfl Tryd.underlying49 rfl in_3 (Nat.succ_ne_zero _) rfl rfl (ne_of_lt (n := 0) (Nat.lt_of_lt_of_eq (by decide) (Eq.symm (GToken.len t0)))))) ?_
       refine r_on rfl rfl rfl rfl (decide_eq_false h5) rfl (PureD.opD (u_ld rfl rfl Tryd.underlying3 rfl rfl ((Sub.refl _).trans (GToken.sub0 t0)))) ?_
       refine r_on rfl rfl rfl rfl (decide_eq_false h5) rfl (PureD.opD (p_ieq rfl rfl rfl)) ?_
       refine rn rfl rfl rfl rfl qq2 rfl (p_pkf rfl rfl (decide_eq_false h5) (tb ((or_l (p := t0.Kind = (1 : Int)) (q := t0.Kind = (2 : Int)) h5)))) ?_
       refine rn rfl rfl rfl rfl qq2 rfl (p_move rfl rfl) ?_
       refine (Classical.em (t0.Kind = (2 : Int))).elim (fun h6 => ?_) (fun h6 => ?_)
       ·have qq4 := decide_eq_true (p := (t0.Kind = (1 : Int)) ∨ (t0.Kind = (2 : Int))) (Or.inr h6)
        refine rn rfl rfl rfl rfl qq4 rfl (u_fa rfl rfl Tryd.underlying49 rfl in_9 (Nat.succ_ne_zero _) rfl rfl (ne_of_lt (n := 0) (Nat.lt_of_lt_of_eq (by decide) (Eq.symm (GToken.len t0))))) ?_
        refine rn rfl rfl rfl rfl qq4 rfl (u_ld rfl rfl Tryd.underlying9 rfl rfl ((Sub.refl _).trans (GToken.sub1 t0))) ?_
        refine rn rfl rfl rfl rfl qq4 rfl (p_lent rfl Tryd.underlying9 rfl) ?_
        refine rn rfl rfl rfl rfl qq4 rfl (p_bin rfl rfl rfl rfl) ?_
        refine rn rfl rfl rfl rfl qq2 rfl (p_pkt rfl rfl qq4 (tb ((and_l (p := (t0.Kind = (1 : Int)) ∨ (t0.Kind = (2 : Int))) (q := (t0.Text.length : Int) > (8 : Int)) (Or.inr h6))))) ?_
        refine rp rfl rfl (p_pkf rfl rfl qq2 (tb ((or_l (p := (t0.Kind = (4 : Int)) ∧ ((t0.Text.length : Int) > (40 : Int))) (q := ((t0.Kind = (1 : Int)) ∨ (t0.Kind = (2 : Int))) ∧ ((t0.Text.length : Int) > (8 : Int))) (fun h => h4 h.2))))) ?_
        refine rs [(1, .q 1 (0)), (36, .b (decide (((t0.Kind = (4 : Int)) ∧ ((t0.Text.length : Int) > (40 : Int))) ∨ (((t0.Kind = (1 : Int)) ∨ (t0.Kind = (2 : Int))) ∧ ((t0.Text.length : Int) > (8 : Int))))))] [(1, .pure (GToken.cs t0))] rfl rfl rfl ?_
        exact RunW_nil rfl
       ·have qq5 := decide_eq_false (p := (t0.Kind = (1 : Int)) ∨ (t0.Kind = (2 : Int))) (not_or.2 ⟨h5, h6⟩)
        iterate 4 (refine r_off rfl rfl rfl rfl qq5 rfl rfl ?_)
        refine rn rfl rfl rfl rfl qq2 rfl (p_pkf rfl rfl qq5 (tb (decide_eq_false (p := ((t0.Kind = (1 : Int)) ∨ (t0.Kind = (2 : Int))) ∧ ((t0.Text.length : Int) > (8 : Int))) (fun x => (not_or.2 ⟨h5, h6⟩) x.1)).symm)) ?_
        refine rp rfl rfl (p_pkf rfl rfl qq2 (tb ((or_l (p := (t0.Kind = (4 : Int)) ∧ ((t0.Text.length : Int) > (40 : Int))) (q := ((t0.Kind = (1 : Int)) ∨ (t0.Kind = (2 : Int))) ∧ ((t0.Text.length : Int) > (8 : Int))) (fun h => h4 h.2))))) ?_
        refine rs [(1, .q 1 (0)), (36, .b (decide (((t0.Kind = (4 : Int)) ∧ ((t0.Text.length : Int) > (40 : Int))) ∨ (((t0.Kind = (1 : Int)) ∨ (t0.Kind = (2 : Int))) ∧ ((t0.Text.length : Int) > (8 : Int))))))] [(1, .pure (GToken.cs t0))] rfl rfl rfl ?_
        exact RunW_nil rfl
    ·iterate 4 (refine r_off rfl rfl rfl rfl (decide_eq_false h3) rfl rfl ?_)
     refine rp rfl rfl (p_pkf rfl rfl (decide_eq_false h3) (tb (decide_eq_false (p := (t0.Kind = (4 : Int)) ∧ ((t0.Text.length : Int) > (40 : Int))) (fun x => h3 x.1)).symm)) ?_
     refine rp rfl rfl (p_move rfl rfl) ?_
     have qq6 := decide_eq_false (p := (t0.Kind = (4 : Int)) ∧ ((t0.Text.length : Int) > (40 : Int))) (fun h => h3 h.1)
     refine rn rfl rfl rfl rfl qq6 rfl (u_fa rfl rfl Tryd.underlying49 rfl in_3 (Nat.succ_ne_zero _) rfl rfl (ne_of_lt (n := 0) (Nat.lt_of_lt_of_eq (by decide) (Eq.symm (GToken.len t0))))) ?_
     refine rn rfl rfl rfl rfl qq6 rfl (u_ld rfl rfl Tryd.underlying3 rfl rfl ((Sub.refl _).trans (GToken.sub0 t0))) ?_
     refine rn rfl rfl rfl rfl qq6 rfl (p_ieq rfl rfl rfl) ?_
     refine rn rfl rfl rfl rfl qq6 rfl (p_move rfl rfl) ?_
     refine (Classical.em (t0.Kind = (1 : Int))).elim (fun h7 => ?_) (fun h7 => ?_)
     ·iterate 3 (refine r_off rfl rfl rfl rfl (decide_eq_true h7) rfl rfl ?_)
      have qq7 := decide_eq_true (p := (t0.Kind = (1 : Int)) ∨ (t0.Kind = (2 : Int))) (Or.inl h7)
      refine rn rfl rfl rfl rfl qq6 rfl (p_pkt rfl rfl (decide_eq_true h7) (tb qq7.symm)) ?_
      refine rn rfl rfl rfl rfl qq6 rfl (p_move rfl rfl) ?_
      refine rn rfl rfl rfl rfl qq7 rfl (u_fa rfl rfl Tryd.underlying49 rfl in_9 (Nat.succ_ne_zero _) rfl rfl (ne_of_lt (n := 0) (Nat.lt_of_lt_of_eq (by decide) (Eq.symm (GToken.len t0))))) ?_
      refine rn rfl rfl rfl rfl qq7 rfl (u_ld rfl rfl Tryd.underlying9 rfl rfl ((Sub.refl _).trans (GToken.sub1 t0))) ?_
      refine rn rfl rfl rfl rfl qq7 rfl (p_lent rfl Tryd.underlying9 rfl) ?_
      refine rn rfl rfl rfl rfl qq7 rfl (p_bin rfl rfl rfl rfl) ?_
      refine rn rfl rfl rfl rfl qq6 rfl (p_pkt rfl rfl qq7 (tb ((and_l (p := (t0.Kind = (1 : Int)) ∨ (t0.Kind = (2 : Int))) (q := (t0.Text.length : Int) > (8 : Int)) (Or.inl h7))))) ?_
      refine rp rfl rfl (p_pkf rfl rfl qq6 (tb ((or_l (p := (t0.Kind = (4 : Int)) ∧ ((t0.Text.length : Int) > (40 : Int))) (q := ((t0.Kind = (1 : Int)) ∨ (t0.Kind = (2 : Int))) ∧ ((t0.Text.length : Int) > (8 : Int))) (fun h => h3 h.1))))) ?_
      refine rs [(1, .q 1 (0)), (36, .b (decide (((t0.Kind = (4 : Int)) ∧ ((t0.Text.length : Int) > (40 : Int))) ∨ (((t0.Kind = (1 : Int)) ∨ (t0.Kind = (2 : Int))) ∧ ((t0.Text.length : Int) > (8 : Int))))))] [(1, .pure (GToken.cs t0))] rfl rfl rfl ?_
      exact RunW_nil rfl
     ·refine r_on rfl rfl rfl rfl (decide_eq_false h7) rfl (PureD.opD (u_fa rfl rfl Tryd.underlying49 rfl in_3 (Nat.succ_ne_zero _) rfl rfl (ne_of_lt (n := 0) (Nat.lt_of_lt_of_eq (by decide) (Eq.symm (GToken.len t0)))))) ?_
      refine r_on rfl rfl rfl rfl (decide_eq_false h7) rfl (PureD.opD (u_ld rfl rfl Tryd.underlying3 rfl rfl ((Sub.refl _).trans (GToken.sub0 t0)))) ?_
      refine r_on rfl rfl rfl rfl (decide_eq_false h7) rfl (PureD.opD (p_ieq rfl rfl rfl)) ?_
      refine rn rfl rfl rfl rfl qq6 rfl (p_pkf rfl rfl (decide_eq_false h7) (tb ((or_l (p := t0.Kind = (1 : Int)) (q := t0.Kind = (2 : Int)) h7)))) ?_
      refine rn rfl rfl rfl rfl qq6 rfl (p_move rfl rfl) ?_
      refine (Classical.em (t0.Kind = (2 : Int))).elim (fun h8 => ?_) (fun h8 => ?_)
      ·have qq8 := decide_eq_true (p := (t0.Kind = (1 : Int)) ∨ (t0.Kind = (2 : Int))) (Or.inr h8)
       refine rn rfl rfl rfl rfl qq8 rfl (u_fa rfl rfl Tryd.underlying49 rfl in_9 (Nat.succ_ne_zero _) rfl rfl (ne_of_lt (n := 0) (Nat.lt_of_lt_of_eq (by decide) (Eq.symm (GToken.len t0))))) ?_
       refine rn rfl rfl rfl rfl qq8 rfl (u_ld rfl rfl Tryd.underlying9 rfl rfl ((Sub.refl _).trans (GToken.sub1 t0))) ?_
       refine rn rfl rfl rfl rfl qq8 rfl (p_lent rfl Tryd.underlying9 rfl) ?_
       refine rn rfl rfl rfl rfl qq8 rfl (p_bin rfl rfl rfl rfl) ?_
       refine rn rfl rfl rfl rfl qq6 rfl (p_pkt rfl rfl qq8 (tb ((and_l (p := (t0.Kind = (1 : Int)) ∨ (t0.Kind = (2 : Int))) (q := (t0.Text.length : Int) > (8 : Int)) (Or.inr h8))))) ?_
       refine rp rfl rfl (p_pkf rfl rfl qq6 (tb ((or_l (p := (t0.Kind = (4 : Int)) ∧ ((t0.Text.length : Int) > (40 : Int))) (q := ((t0.Kind = (1 : Int)) ∨ (t0.Kind = (2 : Int))) ∧ ((t0.Text.length : Int) > (8 : Int))) (fun h => h3 h.1))))) ?_
       refine rs [(1, .q 1 (0)), (36, .b (decide (((t0.Kind = (4 : Int)) ∧ ((t0.Text.length : Int) > (40 : Int))) ∨ (((t0.Kind = (1 : Int)) ∨ (t0.Kind = (2 : Int))) ∧ ((t0.Text.length : Int) > (8 : Int))))))] [(1, .pure (GToken.cs t0))] rfl rfl rfl ?_
       exact RunW_nil rfl
      ·have qq9 := decide_eq_false (p := (t0.Kind = (1 : Int)) ∨ (t0.Kind = (2 : Int))) (not_or.2 ⟨h7, h8⟩)
       iterate 4 (refine r_off rfl rfl rfl rfl qq9 rfl rfl ?_)
       refine rn rfl rfl rfl rfl qq6 rfl (p_pkf rfl rfl qq9 (tb (decide_eq_false (p := ((t0.Kind = (1 : Int)) ∨ (t0.Kind = (2 : Int))) ∧ ((t0.Text.length : Int) > (8 : Int))) (fun x => (not_or.2 ⟨h7, h8⟩) x.1)).symm)) ?_
       refine rp rfl rfl (p_pkf rfl rfl qq6 (tb ((or_l (p := (t0.Kind = (4 : Int)) ∧ ((t0.Text.length : Int) > (40 : Int))) (q := ((t0.Kind = (1 : Int)) ∨ (t0.Kind = (2 : Int))) ∧ ((t0.Text.length : Int) > (8 : Int))) (fun h => h3 h.1))))) ?_
       refine rs [(1, .q 1 (0)), (36, .b (decide (((t0.Kind = (4 : Int)) ∧ ((t0.Text.length : Int) > (40 : Int))) ∨ (((t0.Kind = (1 : Int)) ∨ (t0.Kind = (2 : Int))) ∧ ((t0.Text.length : Int) > (8 : Int))))))] [(1, .pure (GToken.cs t0))] rfl rfl rfl ?_
       exact RunW_nil rfl
   ·refine gen1 (fun t36'1 => (⟨[(1, .q 1 (0)), (36, .b t36'1)], [(1, .pure (GToken.cs t0))], 112⟩ : TS)) H ?_
    intro t36'1 H
    refine AW2_cond rfl (fun h9 => ?_) (fun h9 => ?_)
    ·replace H := ite_then h9 H
     refine sg [0] rfl ?_
     refine rp rfl rfl (p_asg rfl rfl) ?_
     refine rz [(2, .i (1 : Int))] [] rfl rfl rfl ?_
     refine AW2_ret ?_
     have hz := some_elim H
     subst hz
     exact ⟨⟨res_tmp (.same _), trivial⟩, trivial⟩
    ·replace H := ite_else (ne_true h9) H
     refine as2 [(1, .q 1 (0))] [(1, .pure (GToken.cs t0))] rfl rfl rfl ?_
     refine AW2_skip ?_
     refine AW2_seq ?_
     refine AW2_seq ?_
     refine AW2_mid (⟨[(1, .q 1 (0)), (69, .b (decide ((((t0.Kind ≠ (3 : Int)) ∧ (t0.Int_ ≠ (0 : Int))) ∨ ((t0.Kind ≠ (5 : Int)) ∧ (t0.Bits ≠ (0 : UInt64)))) ∨ (((t0.Kind = (3 : Int)) ∨ (t0.Kind = (5 : Int))) ∧ (t0.Text ≠ [])))))], [(1, .pure (GToken.cs t0))], 112⟩ : TS) ?_ ?_
     ·refine AW2_reg [0, 1, 2, 3, 4, 5, 6, 7, 8, 9, 10, 11, 12, 13, 14, 15, 16, 17, 18, 19, 20, 21, 22, 23, 24, 25, 26, 27, 28, 29, 30, 31, 32] rfl ?_
      refine rp rfl rfl (u_fa rfl rfl Tryd.underlying49 rfl in_3 (Nat.succ_ne_zero _) rfl rfl (ne_of_lt (n := 0) (Nat.lt_of_lt_of_eq (by decide) (Eq.symm (GToken.len t0))))) ?_
      refine rp rfl rfl (u_ld rfl rfl Tryd.underlying3 rfl rfl ((Sub.refl _).trans (GToken.sub0 t0))) ?_
      refine rp rfl rfl (p_ine rfl rfl rfl) ?_
      refine rp rfl rfl (p_move rfl rfl) ?_
      refine (Classical.em (t0.Kind ≠ (3 : Int))).elim (fun h10 => ?_) (fun h10 => ?_)
      ·refine r_on rfl rfl rfl rfl (decide_eq_true h10) rfl (PureD.opD (u_fa rfl rfl Tryd.underlying49 rfl in_3 (Nat.succ_ne_zero _) rfl rfl (ne_of_lt (n := 0) (Nat.lt_of_lt_of_eq (by decide) (Eq.symm (GToken.len t0)))))) ?_
       refine r_on rfl rfl rfl rfl (decide_eq_true h10) rfl (PureD.opD (u_ld rfl rfl Tryd.underlying3 rfl rfl ((Sub.refl _).trans (GToken.sub2 t0)))) ?_
       refine r_on rfl rfl rfl rfl (decide_eq_true h10) rfl (PureD.opD (p_ine rfl rfl rfl)) ?_
       refine rp rfl rfl (p_pkt rfl rfl (decide_eq_true h10) (tb ((and_l (p := t0.Kind ≠ (3 : Int)) (q := t0.Int_ ≠ (0 : Int)) h10)))) ?_
       refine rp rfl rfl (p_move rfl rfl) ?_
       refine (Classical.em (t0.Int_ ≠ (0 : Int))).elim (fun h11 => ?_) (fun h11 => ?_)
       ·have qq10 := decide_eq_true (p := (t0.Kind ≠ (3 : Int)) ∧ (t0.Int_ ≠ (0 : Int))) ⟨h10, h11⟩
        iterate 4 (refine r_off rfl rfl rfl rfl qq10 rfl rfl ?_)
        iterate 3 (refine r_off2 rfl rfl rfl rfl rfl rfl ?_)
        refine r_off rfl rfl rfl rfl qq10 rfl rfl ?_
        have qq11 := decide_eq_true (p := ((t0.Kind ≠ (3 : Int)) ∧ (t0.Int_ ≠ (0 : Int))) ∨ ((t0.Kind ≠ (5 : Int)) ∧ (t0.Bits ≠ (0 : UInt64)))) (Or.inl ⟨h10, h11⟩)
        refine rp rfl rfl (p_pkt rfl rfl qq10 (tb qq11.symm)) ?_
        refine rp rfl rfl (p_move rfl rfl) ?_
        iterate 4 (refine r_off rfl rfl rfl rfl qq11 rfl rfl ?_)
        iterate 3 (refine r_off2 rfl rfl rfl rfl rfl rfl ?_)
        iterate 2 (refine r_off rfl rfl rfl rfl qq11 rfl rfl ?_)
        iterate 3 (refine r_off2 rfl rfl rfl rfl rfl rfl ?_)
        refine r_off rfl rfl rfl rfl qq11 rfl rfl ?_
        refine rp rfl rfl (p_pkt rfl rfl qq11 (tb (decide_eq_true (p := (((t0.Kind ≠ (3 : Int)) ∧ (t0.Int_ ≠ (0 : Int))) ∨ ((t0.Kind ≠ (5 : Int)) ∧ (t0.Bits ≠ (0 : UInt64)))) ∨ (((t0.Kind = (3 : Int)) ∨ (t0.Kind = (5 : Int))) ∧ (t0.Text ≠ []))) (Or.inl (Or.inl ⟨h10, h11⟩))).symm)) ?_
        refine rs [(1, .q 1 (0)), (69, .b (decide ((((t0.Kind ≠ (3 : Int)) ∧ (t0.Int_ ≠ (0 : Int))) ∨ ((t0.Kind ≠ (5 : Int)) ∧ (t0.Bits ≠ (0 : UInt64)))) ∨ (((t0.Kind = (3 : Int)) ∨ (t0.Kind = (5 : Int))) ∧ (t0.Text ≠ [])))))] [(1, .pure (GToken.cs t0))] rfl rfl rfl ?_
        exact RunW_nil rfl
       ·have qq12 := decide_eq_false (p := (t0.Kind ≠ (3 : Int)) ∧ (t0.Int_ ≠ (0 : Int))) (fun h => h11 h.2)
        refine rn rfl rfl rfl rfl qq12 rfl (u_fa rfl rfl Tryd.underlying49 rfl in_3 (Nat.succ_ne_zero _) rfl rfl (ne_of_lt (n := 0) (Nat.lt_of_lt_of_eq (by decide) (Eq.symm (GToken.len t0))))) ?_
        refine rn rfl rfl rfl rfl qq12 rfl (u_ld rfl rfl Tryd.underlying3 rfl rfl ((Sub.refl _).trans (GToken.sub0 t0))) ?_
        refine rn rfl rfl rfl rfl qq12 rfl (p_ine rfl rfl rfl) ?_
        refine rn rfl rfl rfl rfl qq12 rfl (p_move rfl rfl) ?_
        refine (Classical.em (t0.Kind ≠ (5 : Int))).elim (fun h12 => ?_) (fun h12 => ?_)
        ·refine r_on rfl rfl rfl rfl (decide_eq_true h12) rfl (PureD.opD (u_fa rfl rfl Tryd.underlying49 rfl in_22 (Nat.succ_ne_zero _) rfl rfl (ne_of_lt (n := 0) (Nat.lt_of_lt_of_eq (by decide) (Eq.symm (GToken.len t0)))))) ?_
         refine r_on rfl rfl rfl rfl (decide_eq_true h12) rfl (PureD.opD (u_ld rfl rfl Tryd.underlying22 rfl rfl ((Sub.refl _).trans (GToken.sub3 t0)))) ?_
         refine r_on rfl rfl rfl rfl (decide_eq_true h12) rfl (PureD.opD (p_u64ne (a := t0.Bits) (b := (0 : UInt64)) rfl rfl rfl)) ?_
         refine rn rfl rfl rfl rfl qq12 rfl (p_pkt rfl rfl (decide_eq_true h12) (tb ((and_l (p := t0.Kind ≠ (5 : Int)) (q := t0.Bits ≠ (0 : UInt64)) h12)))) ?_
         refine rp rfl rfl (p_pkf rfl rfl qq12 (tb ((or_l (p := (t0.Kind ≠ (3 : Int)) ∧ (t0.Int_ ≠ (0 : Int))) (q := (t0.Kind ≠ (5 : Int)) ∧ (t0.Bits ≠ (0 : UInt64))) (fun h => h11 h.2))))) ?_
         refine rp rfl rfl (p_move rfl rfl) ?_
         refine (Classical.em (t0.Bits ≠ (0 : UInt64))).elim (fun h13 => ?_) (fun h13 => ?_)
         ·have qq13 := decide_eq_true (p := ((t0.Kind ≠ (3 : Int)) ∧ (t0.Int_ ≠ (0 : Int))) ∨ ((t0.Kind ≠ (5 : Int)) ∧ (t0.Bits ≠ (0 : UInt64)))) (Or.inr ⟨h12, h13⟩)
          iterate 4 (refine r_off rfl rfl rfl rfl qq13 rfl rfl ?_)
          iterate 3 (refine r_off2 rfl rfl rfl rfl rfl rfl ?_)
          iterate 2 (refine r_off rfl rfl rfl rfl qq13 rfl rfl ?_)
          iterate 3 (refine r_off2 rfl rfl rfl rfl rfl rfl ?_)
          refine r_off rfl rfl rfl rfl qq13 rfl rfl ?_
          refine rp rfl rfl (p_pkt rfl rfl qq13 (tb (decide_eq_true (p := (((t0.Kind ≠ (3 : Int)) ∧ (t0.Int_ ≠ (0 : Int))) ∨ ((t0.Kind ≠ (5 : Int)) ∧ (t0.Bits ≠ (0 : UInt64)))) ∨ (((t0.Kind = (3 : Int)) ∨ (t0.Kind = (5 : Int))) ∧ (t0.Text ≠ []))) (Or.inl (Or.inr ⟨h12, h13⟩))).symm)) ?_
          refine rs [(1, .q 1 (0)), (69, .b (decide ((((t0.Kind ≠ (3 : Int)) ∧ (t0.Int_ ≠ (0 : Int))) ∨ ((t0.Kind ≠ (5 : Int)) ∧ (t0.Bits ≠ (0 : UInt64)))) ∨ (((t0.Kind = (3 : Int)) ∨ (t0.Kind = (5 : Int))) ∧ (t0.Text ≠ [])))))] [(1, .pure (GToken.cs t0))] rfl rfl rfl ?_
          exact RunW_nil rfl
         ·have qq14 := decide_eq_false (p := ((t0.Kind ≠ (3 : Int)) ∧ (t0.Int_ ≠ (0 : Int))) ∨ ((t0.Kind ≠ (5 : Int)) ∧ (t0.Bits ≠ (0 : UInt64)))) (not_or.2 ⟨(fun h => h11 h.2), (fun h => h13 h.2)⟩)
          refine rn rfl rfl rfl rfl qq14 rfl (u_fa rfl rfl Tryd.underlying49 rfl in_3 (Nat.succ_ne_zero _) rfl rfl (ne_of_lt (n := 0) (Nat.lt_of_lt_of_eq (by decide) (Eq.symm (GToken.len t0))))) ?_
          refine rn rfl rfl rfl rfl qq14 rfl (u_ld rfl rfl Tryd.underlying3 rfl rfl ((Sub.refl _).trans (GToken.sub0 t0))) ?_
          refine rn rfl rfl rfl rfl qq14 rfl (p_ieq rfl rfl rfl) ?_
          refine rn rfl rfl rfl rfl qq14 rfl (p_move rfl rfl) ?_
          refine (Classical.em (t0.Kind = (3 : Int))).elim (fun h14 => ?_) (fun h14 => ?_)
          ·iterate 3 (refine r_off rfl rfl rfl rfl (decide_eq_true h14) rfl rfl ?_)
           have qq15 := decide_eq_true (p := (t0.Kind = (3 : Int)) ∨ (t0.Kind = (5 : Int))) (Or.inl h14)
           refine rn rfl rfl rfl rfl qq14 rfl (p_pkt rfl rfl (decide_eq_true h14) (tb qq15.symm)) ?_
           refine rn rfl rfl rfl rfl qq14 rfl (p_move rfl rfl) ?_
           refine rn rfl rfl rfl rfl qq15 rfl (u_fa rfl rfl Tryd.underlying49 rfl in_9 (Nat.succ_ne_zero _) rfl rfl (ne_of_lt (n := 0) (Nat.lt_of_lt_of_eq (by decide) (Eq.symm (GToken.len t0))))) ?_
           refine rn rfl rfl rfl rfl qq15 rfl (u_ld rfl rfl Tryd.underlying9 rfl rfl ((Sub.refl _).trans (GToken.sub1 t0))) ?_
           refine rn rfl rfl rfl rfl qq15 rfl (p_sne rfl rfl rfl) ?_
           refine rn rfl rfl rfl rfl qq14 rfl (p_pkt rfl rfl qq15 (tb ((and_l (p := (t0.Kind = (3 : Int)) ∨ (t0.Kind = (5 : Int))) (q := t0.Text ≠ []) (Or.inl h14))))) ?_
           refine rp rfl rfl (p_pkf rfl rfl qq14 (tb ((or_l (p := ((t0.Kind ≠ (3 : Int)) ∧ (t0.Int_ ≠ (0 : Int))) ∨ ((t0.Kind ≠ (5 : Int)) ∧ (t0.Bits ≠ (0 : UInt64)))) (q := ((t0.Kind = (3 : Int)) ∨ (t0.Kind = (5 : Int))) ∧ (t0.Text ≠ [])) (not_or.2 ⟨(fun h => h11 h.2), (fun h => h13 h.2)⟩))))) ?_
           refine rs [(1, .q 1 (0)), (69, .b (decide ((((t0.Kind ≠ (3 : Int)) ∧ (t0.Int_ ≠ (0 : Int))) ∨ ((t0.Kind ≠ (5 : Int)) ∧ (t0.Bits ≠ (0 : UInt64)))) ∨ (((t0.Kind = (3 : Int)) ∨ (t0.Kind = (5 : Int))) ∧ (t0.Text ≠ [])))))] [(1, .pure (GToken.cs t0))] rfl rfl rfl ?_
           exact RunW_nil rfl
          ·refine r_on rfl rfl rfl rfl (decide_eq_false h14) rfl (PureD.opD (u_fa rfl rfl Tryd.underlying49 rfl in_3 (Nat.succ_ne_zero _) rfl rfl (ne_of_lt (n := 0) (Nat.lt_of_lt_of_eq (by decide) (Eq.symm (GToken.len t0)))))) ?_
           refine r_on rfl rfl rfl rfl (decide_eq_false h14) rfl (PureD.opD (u_ld rfl rfl Tryd.underlying3 rfl rfl ((Sub.refl _).trans (GToken.sub0 t0)))) ?_
           refine r_on rfl rfl rfl rfl (decide_eq_false h14) rfl (PureD.opD (p_ieq rfl rfl rfl)) ?_
           refine rn rfl rfl rfl rfl qq14 rfl (p_pkf rfl rfl (decide_eq_false h14) (tb ((or_l (p := t0.Kind = (3 : Int)) (q := t0.Kind = (5 : Int)) h14)))) ?_
           refine rn rfl rfl rfl rfl qq14 rfl (p_move rfl rfl) ?_
           refine (Classical.em (t0.Kind = (5 : Int))).elim (fun h15 => ?_) (fun h15 => ?_)
           ·have qq16 := decide_eq_true (p := (t0.Kind = (3 : Int)) ∨ (t0.Kind = (5 : Int))) (Or.inr h15)
            refine rn rfl rfl rfl rfl qq16 rfl (u_fa rfl rfl Tryd.underlying49 rfl in_9 (Nat.succ_ne_zero _) rfl rfl (ne_of_lt (n := 0) (Nat.lt_of_lt_of_eq (by decide) (Eq.symm (GToken.len t0))))) ?_
            refine rn rfl rfl rfl rfl qq16 rfl (u_ld rfl rfl Tryd.underlying9 rfl rfl ((Sub.refl _).trans (GToken.sub1 t0))) ?_
            refine rn rfl rfl rfl rfl qq16 rfl (p_sne rfl rfl rfl) ?_
            refine rn rfl rfl rfl rfl qq14 rfl (p_pkt rfl rfl qq16 (tb ((and_l (p := (t0.Kind = (3 : Int)) ∨ (t0.Kind = (5 : Int))) (q := t0.Text ≠ []) (Or.inr h15))))) ?_
            refine rp rfl rfl (p_pkf rfl rfl qq14 (tb ((or_l (p := ((t0.Kind ≠ (3 : Int)) ∧ (t0.Int_ ≠ (0 : Int))) ∨ ((t0.Kind ≠ (5 : Int)) ∧ (t0.Bits ≠ (0 : UInt64)))) (q := ((t0.Kind = (3 : Int)) ∨ (t0.Kind = (5 : Int))) ∧ (t0.Text ≠ [])) (not_or.2 ⟨(fun h => h11 h.2), (fun h => h13 h.2)⟩))))) ?_
            refine rs [(1, .q 1 (0)), (69, .b (decide ((((t0.Kind ≠ (3 : Int)) ∧ (t0.Int_ ≠ (0 : Int))) ∨ ((t0.Kind ≠ (5 : Int)) ∧ (t0.Bits ≠ (0 : UInt64)))) ∨ (((t0.Kind = (3 : Int)) ∨ (t0.Kind = (5 : Int))) ∧ (t0.Text ≠ [])))))] [(1, .pure (GToken.cs t0))] rfl rfl rfl ?_
            exact RunW_nil rfl
           ·have qq17 := decide_eq_false (p := (t0.Kind = (3 : Int)) ∨ (t0.Kind = (5 : Int))) (not_or.2 ⟨h14, h15⟩)
            iterate 3 (refine r_off rfl rfl rfl rfl qq17 rfl rfl ?_)
            refine rn rfl rfl rfl rfl qq14 rfl (p_pkf rfl rfl qq17 (tb (decide_eq_false (p := ((t0.Kind = (3 : Int)) ∨ (t0.Kind = (5 : Int))) ∧ (t0.Text ≠ [])) (fun x => (not_or.2 ⟨h14, h15⟩) x.1)).symm)) ?_
            refine rp rfl rfl (p_pkf rfl rfl qq14 (tb ((or_l (p := ((t0.Kind ≠ (3 : Int)) ∧ (t0.Int_ ≠ (0 : Int))) ∨ ((t0.Kind ≠ (5 : Int)) ∧ (t0.Bits ≠ (0 : UInt64)))) (q := ((t0.Kind = (3 : Int)) ∨ (t0.Kind = (5 : Int))) ∧ (t0.Text ≠ [])) (not_or.2 ⟨(fun h => h11 h.2), (fun h => h13 h.2)⟩))))) ?_
            refine rs [(1, .q 1 (0)), (69, .b (decide ((((t0.Kind ≠ (3 : Int)) ∧ (t0.Int_ ≠ (0 : Int))) ∨ ((t0.Kind ≠ (5 : Int)) ∧ (t0.Bits ≠ (0 : UInt64)))) ∨ (((t0.Kind = (3 : Int)) ∨ (t0.Kind = (5 : Int))) ∧ (t0.Text ≠ [])))))] [(1, .pure (GToken.cs t0))] rfl rfl rfl ?_
            exact RunW_nil rfl
        ·iterate 3 (refine r_off rfl rfl rfl rfl (decide_eq_false h12) rfl rfl ?_)
         refine rn rfl rfl rfl rfl qq12 rfl (p_pkf rfl rfl (decide_eq_false h12) (tb (decide_eq_false (p := (t0.Kind ≠ (5 : Int)) ∧ (t0.Bits ≠ (0 : UInt64))) (fun x => h12 x.1)).symm)) ?_
         refine rp rfl rfl (p_pkf rfl rfl qq12 (tb ((or_l (p := (t0.Kind ≠ (3 : Int)) ∧ (t0.Int_ ≠ (0 : Int))) (q := (t0.Kind ≠ (5 : Int)) ∧ (t0.Bits ≠ (0 : UInt64))) (fun h => h11 h.2))))) ?_
         refine rp rfl rfl (p_move rfl rfl) ?_
         have qq18 := decide_eq_false (p := ((t0.Kind ≠ (3 : Int)) ∧ (t0.Int_ ≠ (0 : Int))) ∨ ((t0.Kind ≠ (5 : Int)) ∧ (t0.Bits ≠ (0 : UInt64)))) (not_or.2 ⟨(fun h => h11 h.2), (fun h => h12 h.1)⟩)
         refine rn rfl rfl rfl rfl qq18 rfl (u_fa rfl rfl Tryd.underlying49 rfl in_3 (Nat.succ_ne_zero _) rfl rfl (ne_of_lt (n := 0) (Nat.lt_of_lt_of_eq (by decide) (Eq.symm (GToken.len t0))))) ?_
         refine rn rfl rfl rfl rfl qq18 rfl (u_ld rfl rfl Tryd.underlying3 rfl rfl ((Sub.refl _).trans (GToken.sub0 t0))) ?_
         refine rn rfl rfl rfl rfl qq18 rfl (p_ieq rfl rfl rfl) ?_
         refine rn rfl rfl rfl rfl qq18 rfl (p_move rfl rfl) ?_
         refine (Classical.em (t0.Kind = (3 : Int))).elim (fun h16 => ?_) (fun h16 => ?_)
         ·iterate 3 (refine r_off rfl rfl rfl rfl (decide_eq_true h16) rfl rfl ?_)
          have qq19 := decide_eq_true (p := (t0.Kind = (3 : Int)) ∨ (t0.Kind = (5 : Int))) (Or.inl h16)
          refine rn rfl rfl rfl rfl qq18 rfl (p_pkt rfl rfl (decide_eq_true h16) (tb qq19.symm)) ?_
          refine rn rfl rfl rfl rfl qq18 rfl (p_move rfl rfl) ?_
          refine rn rfl rfl rfl rfl qq19 rfl (u_fa rfl rfl Tryd.underlying49 rfl in_9 (Nat.succ_ne_zero _) rfl rfl (ne_of_lt (n := 0) (Nat.lt_of_lt_of_eq (by decide) (Eq.symm (GToken.len t0))))) ?_
          refine rn rfl rfl rfl rfl qq19 rfl (u_ld rfl rfl Tryd.underlying9 rfl rfl ((Sub.refl _).trans (GToken.sub1 t0))) ?_
          refine rn rfl rfl rfl rfl qq19 rfl (p_sne rfl rfl rfl) ?_
          refine rn rfl rfl rfl rfl qq18 rfl (p_pkt rfl rfl qq19 (tb ((and_l (p := (t0.Kind = (3 : Int)) ∨ (t0.Kind = (5 : Int))) (q := t0.Text ≠ []) (Or.inl h16))))) ?_
          refine rp rfl rfl (p_pkf rfl rfl qq18 (tb ((or_l (p := ((t0.Kind ≠ (3 : Int)) ∧ (t0.Int_ ≠ (0 : Int))) ∨ ((t0.Kind ≠ (5 : Int)) ∧ (t0.Bits ≠ (0 : UInt64)))) (q := ((t0.Kind = (3 : Int)) ∨ (t0.Kind = (5 : Int))) ∧ (t0.Text ≠ [])) (not_or.2 ⟨(fun h => h11 h.2), (fun h => h12 h.1)⟩))))) ?_
          refine rs [(1, .q 1 (0)), (69, .b (decide ((((t0.Kind ≠ (3 : Int)) ∧ (t0.Int_ ≠ (0 : Int))) ∨ ((t0.Kind ≠ (5 : Int)) ∧ (t0.Bits ≠ (0 : UInt64)))) ∨ (((t0.Kind = (3 : Int)) ∨ (t0.Kind = (5 : Int))) ∧ (t0.Text ≠ [])))))] [(1, .pure (GToken.cs t0))] rfl rfl rfl ?_
          exact RunW_nil rfl
         ·refine r_on rfl rfl rfl rfl (decide_eq_false h16) rfl (PureD.opD (u_fa rfl rfl Tryd.underlying49 rfl in_3 (Nat.succ_ne_zero _) rfl rfl (ne_of_lt (n := 0) (Nat.lt_of_lt_of_eq (by decide) (Eq.symm (GToken.len t0)))))) ?_
          refine r_on rfl rfl rfl rfl (decide_eq_false h16) rfl (PureD.opD (u_ld rfl rfl Tryd.underlying3 rfl rfl ((Sub.refl _).trans (GToken.sub0 t0)))) ?_
          refine r_on rfl rfl rfl rfl (decide_eq_false h16) rfl (PureD.opD (p_ieq rfl rfl rfl)) ?_
          refine rn rfl rfl rfl rfl qq18 rfl (p_pkf rfl rfl (decide_eq_false h16) (tb ((or_l (p := t0.Kind = (3 : Int)) (q := t0.Kind = (5 : Int)) h16)))) ?_
          refine rn rfl rfl rfl rfl qq18 rfl (p_move rfl rfl) ?_
          refine (Classical.em (t0.Kind = (5 : Int))).elim (fun h17 => ?_) (fun h17 => ?_)
          ·have qq20 := decide_eq_true (p := (t0.Kind = (3 : Int)) ∨ (t0.Kind = (5 : Int))) (Or.inr h17)
           refine rn rfl rfl rfl rfl qq20 rfl (u_fa rfl rfl Tryd.underlying49 rfl in_9 (Nat.succ_ne_zero _) rfl rfl (ne_of_lt (n := 0) (Nat.lt_of_lt_of_eq (by decide) (Eq.symm (GToken.len t0))))) ?_
           refine rn rfl rfl rfl rfl qq20 rfl (u_ld rfl rfl Tryd.underlying9 rfl rfl ((Sub.refl _).trans (GToken.sub1 t0))) ?_
           refine rn rfl rfl rfl rfl qq20 rfl (p_sne rfl rfl rfl) ?_
           refine rn rfl rfl rfl rfl qq18 rfl (p_pkt rfl rfl qq20 (tb ((and_l (p := (t0.Kind = (3 : Int)) ∨ (t0.Kind = (5 : Int))) (q := t0.Text ≠ []) (Or.inr h17))))) ?_
           refine rp rfl rfl (p_pkf rfl rfl qq18 (tb ((or_l (p := ((t0.Kind ≠ (3 : Int)) ∧ (t0.Int_ ≠ (0 : Int))) ∨ ((t0.Kind ≠ (5 : Int)) ∧ (t0.Bits ≠ (0 : UInt64)))) (q := ((t0.Kind = (3 : Int)) ∨ (t0.Kind = (5 : Int))) ∧ (t0.Text ≠ [])) (not_or.2 ⟨(fun h => h11 h.2), (fun h => h12 h.1)⟩))))) ?_
           refine rs [(1, .q 1 (0)), (69, .b (decide ((((t0.Kind ≠ (3 : Int)) ∧ (t0.Int_ ≠ (0 : Int))) ∨ ((t0.Kind ≠ (5 : Int)) ∧ (t0.Bits ≠ (0 : UInt64)))) ∨ (((t0.Kind = (3 : Int)) ∨ (t0.Kind = (5 : Int))) ∧ (t0.Text ≠ [])))))] [(1, .pure (GToken.cs t0))] rfl rfl rfl ?_
           exact RunW_nil rfl
          ·have qq21 := decide_eq_false (p := (t0.Kind = (3 : Int)) ∨ (t0.Kind = (5 : Int))) (not_or.2 ⟨h16, h17⟩)
           iterate 3 (refine r_off rfl rfl rfl rfl qq21 rfl rfl ?_)
           refine rn rfl rfl rfl rfl qq18 rfl (p_pkf rfl rfl qq21 (tb (decide_eq_false (p := ((t0.Kind = (3 : Int)) ∨ (t0.Kind = (5 : Int))) ∧ (t0.Text ≠ [])) (fun x => (not_or.2 ⟨h16, h17⟩) x.1)).symm)) ?_
           refine rp rfl rfl (p_pkf rfl rfl qq18 (tb ((or_l (p := ((t0.Kind ≠ (3 : Int)) ∧ (t0.Int_ ≠ (0 : Int))) ∨ ((t0.Kind ≠ (5 : Int)) ∧ (t0.Bits ≠ (0 : UInt64)))) (q := ((t0.Kind = (3 : Int)) ∨ (t0.Kind = (5 : Int))) ∧ (t0.Text ≠ [])) (not_or.2 ⟨(fun h => h11 h.2), (fun h => h12 h.1)⟩))))) ?_
           refine rs [(1, .q 1 (0)), (69, .b (decide ((((t0.Kind ≠ (3 : Int)) ∧ (t0.Int_ ≠ (0 : Int))) ∨ ((t0.Kind ≠ (5 : Int)) ∧ (t0.Bits ≠ (0 : UInt64)))) ∨ (((t0.Kind = (3 : Int)) ∨ (t0.Kind = (5 : Int))) ∧ (t0.Text ≠ [])))))] [(1, .pure (GToken.cs t0))] rfl rfl rfl ?_
           exact RunW_nil rfl
      ·iterate 3 (refine r_off rfl rfl rfl rfl (decide_eq_false h10) rfl rfl ?_)
       refine rp rfl rfl (p_pkf rfl rfl (decide_eq_false h10) (tb (decide_eq_false (p := (t0.Kind ≠ (3 : Int)) ∧ (t0.Int_ ≠ (0 : Int))) (fun x => h10 x.1)).symm)) ?_
       refine rp rfl rfl (p_move rfl rfl) ?_
       have qq22 := decide_eq_false (p := (t0.Kind ≠ (3 : Int)) ∧ (t0.Int_ ≠ (0 : Int))) (fun h => h10 h.1)
       refine rn rfl rfl rfl rfl qq22 rfl (u_fa rfl rfl Tryd.underlying49 rfl in_3 (Nat.succ_ne_zero _) rfl rfl (ne_of_lt (n := 0) (Nat.lt_of_lt_of_eq (by decide) (Eq.symm (GToken.len t0))))) ?_
       refine rn rfl rfl rfl rfl qq22 rfl (u_ld rfl rfl Tryd.underlying3 rfl rfl ((Sub.refl _).trans (GToken.sub0 t0))) ?_
       refine rn rfl rfl rfl rfl qq22 rfl (p_ine rfl rfl rfl) ?_
       refine rn rfl rfl rfl rfl qq22 rfl (p_move rfl rfl) ?_
       refine (Classical.em (t0.Kind ≠ (5 : Int))).elim (fun h18 => ?_) (fun h18 => ?_)
       ·refine r_on rfl rfl rfl rfl (decide_eq_true h18) rfl (PureD.opD (u_fa rfl rfl Tryd.underlying49 rfl in_22 (Nat.succ_ne_zero _) rfl rfl (ne_of_lt (n := 0) (Nat.lt_of_lt_of_eq (by decide) (Eq.symm (GToken.len t0)))))) ?_
        refine r_on rfl rfl rfl rfl (decide_eq_true h18) rfl (PureD.opD (u_ld rfl rfl Tryd.underlying22 rfl rfl ((Sub.refl _).trans (GToken.sub3 t0)))) ?_
        refine r_on rfl rfl rfl rfl (decide_eq_true h18) rfl (PureD.opD (p_u64ne (a := t0.Bits) (b := (0 : UInt64)) rfl rfl rfl)) ?_
        refine rn rfl rfl rfl rfl qq22 rfl (p_pkt rfl rfl (decide_eq_true h18) (tb ((and_l (p := t0.Kind ≠ (5 : Int)) (q := t0.Bits ≠ (0 : UInt64)) h18)))) ?_
        refine rp rfl rfl (p_pkf rfl rfl qq22 (tb ((or_l (p := (t0.Kind ≠ (3 : Int)) ∧ (t0.Int_ ≠ (0 : Int))) (q := (t0.Kind ≠ (5 : Int)) ∧ (t0.Bits ≠ (0 : UInt64))) (fun h => h10 h.1))))) ?_
        refine rp rfl rfl (p_move rfl rfl) ?_
        refine (Classical.em (t0.Bits ≠ (0 : UInt64))).elim (fun h19 => ?_) (fun h19 => ?_)
        ·have qq23 := decide_eq_true (p := ((t0.Kind ≠ (3 : Int)) ∧ (t0.Int_ ≠ (0 : Int))) ∨ ((t0.Kind ≠ (5 : Int)) ∧ (t0.Bits ≠ (0 : UInt64)))) (Or.inr ⟨h18, h19⟩)
         iterate 4 (refine r_off rfl rfl rfl rfl qq23 rfl rfl ?_)
         iterate 3 (refine r_off2 rfl rfl rfl rfl rfl rfl ?_)
         iterate 2 (refine r_off rfl rfl rfl rfl qq23 rfl rfl ?_)
         iterate 3 (refine r_off2 rfl rfl rfl rfl rfl rfl ?_)
         refine r_off rfl rfl rfl rfl qq23 rfl rfl ?_
         refine rp rfl rfl (p_pkt rfl rfl qq23 (tb (decide_eq_true (p := (((t0.Kind ≠ (3 : Int)) ∧ (t0.Int_ ≠ (0 : Int))) ∨ ((t0.Kind ≠ (5 : Int)) ∧ (t0.Bits ≠ (0 : UInt64)))) ∨ (((t0.Kind = (3 : Int)) ∨ (t0.Kind = (5 : Int))) ∧ (t0.Text ≠ []))) (Or.inl (Or.inr ⟨h18, h19⟩))).symm)) ?_
         refine rs [(1, .q 1 (0)), (69, .b (decide ((((t0.Kind ≠ (3 : Int)) ∧ (t0.Int_ ≠ (0 : Int))) ∨ ((t0.Kind ≠ (5 : Int)) ∧ (t0.Bits ≠ (0 : UInt64)))) ∨ (((t0.Kind = (3 : Int)) ∨ (t0.Kind = (5 : Int))) ∧ (t0.Text ≠ [])))))] [(1, .pure (GToken.cs t0))] rfl rfl rfl ?_
         exact RunW_nil rfl
        ·have qq24 := decide_eq_false (p := ((t0.Kind ≠ (3 : Int)) ∧ (t0.Int_ ≠ (0 : Int))) ∨ ((t0.Kind ≠ (5 : Int)) ∧ (t0.Bits ≠ (0 : UInt64)))) (not_or.2 ⟨(fun h => h10 h.1), (fun h => h19 h.2)⟩)
         refine rn rfl rfl rfl rfl qq24 rfl (u_fa rfl rfl Tryd.underlying49 rfl in_3 (Nat.succ_ne_zero _) rfl rfl (ne_of_lt (n := 0) (Nat.lt_of_lt_of_eq (by decide) (Eq.symm (GToken.len t0))))) ?_
         refine rn rfl rfl rfl rfl qq24 rfl (u_ld rfl rfl Tryd.underlying3 rfl rfl ((Sub.refl _).trans (GToken.sub0 t0))) ?_
         refine rn rfl rfl rfl rfl qq24 rfl (p_ieq rfl rfl rfl) ?_
         refine rn rfl rfl rfl rfl qq24 rfl (p_move rfl rfl) ?_
         refine (Classical.em (t0.Kind = (3 : Int))).elim (fun h20 => ?_) (fun h20 => ?_)
         ·iterate 3 (refine r_off rfl rfl rfl rfl (decide_eq_true h20) rfl rfl ?_)
          have qq25 := decide_eq_true (p := (t0.Kind = (3 : Int)) ∨ (t0.Kind = (5 : Int))) (Or.inl h20)
          refine rn rfl rfl rfl rfl qq24 rfl (p_pkt rfl rfl (decide_eq_true h20) (tb qq25.symm)) ?_
          refine rn rfl rfl rfl rfl qq24 rfl (p_move rfl rfl) ?_
          refine rn rfl rfl rfl rfl qq25 rfl (u_fa rfl rfl Tryd.underlying49 rfl in_9 (Nat.succ_ne_zero _) rfl rfl (ne_of_lt (n := 0) (Nat.lt_of_lt_of_eq (by decide) (Eq.symm (GToken.len t0))))) ?_
          refine rn rfl rfl rfl rfl qq25 rfl (u_ld rfl rfl Tryd.underlying9 rfl rfl ((Sub.refl _).trans (GToken.sub1 t0))) ?_
          refine rn rfl rfl rfl rfl qq25 rfl (p_sne rfl rfl rfl) ?_
          refine rn rfl rfl rfl rfl qq24 rfl (p_pkt rfl rfl qq25 (tb ((and_l (p := (t0.Kind = (3 : Int)) ∨ (t0.Kind = (5 : Int))) (q := t0.Text ≠ []) (Or.inl h20))))) ?_
          refine rp rfl rfl (p_pkf rfl rfl qq24 (tb ((or_l (p := ((t0.Kind ≠ (3 : Int)) ∧ (t0.Int_ ≠ (0 : Int))) ∨ ((t0.Kind ≠ (5 : Int)) ∧ (t0.Bits ≠ (0 : UInt64)))) (q := ((t0.Kind = (3 : Int)) ∨ (t0.Kind = (5 : Int))) ∧ (t0.Text ≠ [])) (not_or.2 ⟨(fun h => h10 h.1), (fun h => h19 h.2)⟩))))) ?_
          refine rs [(1, .q 1 (0)), (69, .b (decide ((((t0.Kind ≠ (3 : Int)) ∧ (t0.Int_ ≠ (0 : Int))) ∨ ((t0.Kind ≠ (5 : Int)) ∧ (t0.Bits ≠ (0 : UInt64)))) ∨ (((t0.Kind = (3 : Int)) ∨ (t0.Kind = (5 : Int))) ∧ (t0.Text ≠ [])))))] [(1, .pure (GToken.cs t0))] rfl rfl rfl ?_
          exact RunW_nil rfl
         ·refine r_on rfl rfl rfl rfl (decide_eq_false h20) rfl (PureD.opD (u_fa rfl rfl Tryd.underlying49 rfl in_3 (Nat.succ_ne_zero _) rfl rfl (ne_of_lt (n := 0) (Nat.lt_of_lt_of_eq (by decide) (Eq.symm (GToken.len t0)))))) ?_
          refine r_on rfl rfl rfl rfl (decide_eq_false h20) rfl (PureD.opD (u_ld rfl rfl Tryd.underlying3 rfl rfl ((Sub.refl _).trans (GToken.sub0 t0)))) ?_
          refine r_on rfl rfl rfl rfl (decide_eq_false h20) rfl (PureD.opD (p_ieq rfl rfl rfl)) ?_
          refine rn rfl rfl rfl rfl qq24 rfl (p_pkf rfl rfl (decide_eq_false h20) (tb ((or_l (p := t0.Kind = (3 : Int)) (q := t0.Kind = (5 : Int)) h20)))) ?_
          refine rn rfl rfl rfl rfl qq24 rfl (p_move rfl rfl) ?_
          refine (Classical.em (t0.Kind = (5 : Int))).elim (fun h21 => ?_) (fun h21 => ?_)
          ·have qq26 := decide_eq_true (p := (t0.Kind = (3 : Int)) ∨ (t0.Kind = (5 : Int))) (Or.inr h21)
           refine rn rfl rfl rfl rfl qq26 rfl (u_fa rfl rfl Tryd.underlying49 rfl in_9 (Nat.succ_ne_zero _) rfl rfl (ne_of_lt (n := 0) (Nat.lt_of_lt_of_eq (by decide) (Eq.symm (GToken.len t0))))) ?_
           refine rn rfl rfl rfl rfl qq26 rfl (u_ld rfl rfl Tryd.underlying9 rfl rfl ((Sub.refl _).trans (GToken.sub1 t0))) ?_
           refine rn rfl rfl rfl rfl qq26 rfl (p_sne rfl rfl rfl) ?_
           refine rn rfl rfl rfl rfl qq24 rfl (p_pkt rfl rfl qq26 (tb ((and_l (p := (t0.Kind = (3 : Int)) ∨ (t0.Kind = (5 : Int))) (q := t0.Text ≠ []) (Or.inr h21))))) ?_
           refine rp rfl rfl (p_pkf rfl rfl qq24 (tb ((or_l (p := ((t0.Kind ≠ (3 : Int)) ∧ (t0.Int_ ≠ (0 : Int))) ∨ ((t0.Kind ≠ (5 : Int)) ∧ (t0.Bits ≠ (0 : UInt64)))) (q := ((t0.Kind = (3 : Int)) ∨ (t0.Kind = (5 : Int))) ∧ (t0.Text ≠ [])) (not_or.2 ⟨(fun h => h10 h.1), (fun h => h19 h.2)⟩))))) ?_
           refine rs [(1, .q 1 (0)), (69, .b (decide ((((t0.Kind ≠ (3 : Int)) ∧ (t0.Int_ ≠ (0 : Int))) ∨ ((t0.Kind ≠ (5 : Int)) ∧ (t0.Bits ≠ (0 : UInt64)))) ∨ (((t0.Kind = (3 : Int)) ∨ (t0.Kind = (5 : Int))) ∧ (t0.Text ≠ [])))))] [(1, .pure (GToken.cs t0))] rfl rfl rfl ?_
           exact RunW_nil rfl
          ·have qq27 := decide_eq_false (p := (t0.Kind = (3 : Int)) ∨ (t0.Kind = (5 : Int))) (not_or.2 ⟨h20, h21⟩)
           iterate 3 (refine r_off rfl rfl rfl rfl qq27 rfl rfl ?_)
           refine rn rfl rfl rfl rfl qq24 rfl (p_pkf rfl rfl qq27 (tb (decide_eq_false (p := ((t0.Kind = (3 : Int)) ∨ (t0.Kind = (5 : Int))) ∧ (t0.Text ≠ [])) (fun x => (not_or.2 ⟨h20, h21⟩) x.1)).symm)) ?_
           refine rp rfl rfl (p_pkf rfl rfl qq24 (tb ((or_l (p := ((t0.Kind ≠ (3 : Int)) ∧ (t0.Int_ ≠ (0 : Int))) ∨ ((t0.Kind ≠ (5 : Int)) ∧ (t0.Bits ≠ (0 : UInt64)))) (q := ((t0.Kind = (3 : Int)) ∨ (t0.Kind = (5 : Int))) ∧ (t0.Text ≠ [])) (not_or.2 ⟨(fun h => h10 h.1), (fun h => h19 h.2)⟩))))) ?_
           refine rs [(1, .q 1 (0)), (69, .b (decide ((((t0.Kind ≠ (3 : Int)) ∧ (t0.Int_ ≠ (0 : Int))) ∨ ((t0.Kind ≠ (5 : Int)) ∧ (t0.Bits ≠ (0 : UInt64)))) ∨ (((t0.Kind = (3 : Int)) ∨ (t0.Kind = (5 : Int))) ∧ (t0.Text ≠ [])))))] [(1, .pure (GToken.cs t0))] rfl rfl rfl ?_
           exact RunW_nil rfl
       ·iterate 3 (refine r_off rfl rfl rfl rfl (decide_eq_false h18) rfl rfl ?_)
        refine rn rfl rfl rfl rfl qq22 rfl (p_pkf rfl rfl (decide_eq_false h18) (tb (decide_eq_false (p := (t0.Kind ≠ (5 : Int)) ∧ (t0.Bits ≠ (0 : UInt64))) (fun x => h18 x.1)).symm)) ?_
        refine rp rfl rfl (p_pkf rfl rfl qq22 (tb ((or_l (p := (t0.Kind ≠ (3 : Int)) ∧ (t0.Int_ ≠ (0 : Int))) (q := (t0.Kind ≠ (5 : Int)) ∧ (t0.Bits ≠ (0 : UInt64))) (fun h => h10 h.1))))) ?_
        refine rp rfl rfl (p_move rfl rfl) ?_
        have qq28 := decide_eq_false (p := ((t0.Kind ≠ (3 : Int)) ∧ (t0.Int_ ≠ (0 : Int))) ∨ ((t0.Kind ≠ (5 : Int)) ∧ (t0.Bits ≠ (0 : UInt64)))) (not_or.2 ⟨(fun h => h10 h.1), (fun h => h18 h.1)⟩)
        refine rn rfl rfl rfl rfl qq28 rfl (u_fa rfl rfl Tryd.underlying49 rfl in_3 (Nat.succ_ne_zero _) rfl rfl (ne_of_lt (n := 0) (Nat.lt_of_lt_of_eq (by decide) (Eq.symm (GToken.len t0))))) ?_
        refine rn rfl rfl rfl rfl qq28 rfl (u_ld rfl rfl Tryd.underlying3 rfl rfl ((Sub.refl _).trans (GToken.sub0 t0))) ?_
        refine rn rfl rfl rfl rfl qq28 rfl (p_ieq rfl rfl rfl) ?_
        refine rn rfl rfl rfl rfl qq28 rfl (p_move rfl rfl) ?_
        refine (Classical.em (t0.Kind = (3 : Int))).elim (fun h22 => ?_) (fun h22 => ?_)
        ·iterate 3 (refine r_off rfl rfl rfl rfl (decide_eq_true h22) rfl rfl ?_)
         have qq29 := decide_eq_true (p := (t0.Kind = (3 : Int)) ∨ (t0.Kind = (5 : Int))) (Or.inl h22)
         refine rn rfl rfl rfl rfl qq28 rfl (p_pkt rfl rfl (decide_eq_true h22) (tb qq29.symm)) ?_
         refine rn rfl rfl rfl rfl qq28 rfl (p_move rfl rfl) ?_
         refine rn rfl rfl rfl rfl qq29 rfl (u_fa rfl rfl Tryd.underlying49 rfl in_9 (Nat.succ_ne_zero _) rfl rfl (ne_of_lt (n := 0) (Nat.lt_of_lt_of_eq (by decide) (Eq.symm (GToken.len t0))))) ?_
         refine rn rfl rfl rfl rfl qq29 rfl (u_ld rfl rfl Tryd.underlying9 rfl rfl ((Sub.refl _).trans (GToken.sub1 t0))) ?_
         refine rn rfl rfl rfl rfl qq29 rfl (p_sne rfl rfl rfl) ?_
         refine rn rfl rfl rfl rfl qq28 rfl (p_pkt rfl rfl qq29 (tb ((and_l (p := (t0.Kind = (3 : Int)) ∨ (t0.Kind = (5 : Int))) (q := t0.Text ≠ []) (Or.inl h22))))) ?_
         refine rp rfl rfl (p_pkf rfl rfl qq28 (tb ((or_l (p := ((t0.Kind ≠ (3 : Int)) ∧ (t0.Int_ ≠ (0 : Int))) ∨ ((t0.Kind ≠ (5 : Int)) ∧ (t0.Bits ≠ (0 : UInt64)))) (q := ((t0.Kind = (3 : Int)) ∨ (t0.Kind = (5 : Int))) ∧ (t0.Text ≠ [])) (not_or.2 ⟨(fun h => h10 h.1), (fun h => h18 h.1)⟩))))) ?_
         refine rs [(1, .q 1 (0)), (69, .b (decide ((((t0.Kind ≠ (3 : Int)) ∧ (t0.Int_ ≠ (0 : Int))) ∨ ((t0.Kind ≠ (5 : Int)) ∧ (t0.Bits ≠ (0 : UInt64)))) ∨ (((t0.Kind = (3 : Int)) ∨ (t0.Kind = (5 : Int))) ∧ (t0.Text ≠ [])))))] [(1, .pure (GToken.cs t0))] rfl rfl rfl ?_
         exact RunW_nil rfl
        ·refine r_on rfl rfl rfl rfl (decide_eq_false h22) rfl (PureD.opD (u_fa rfl rfl Tryd.underlying49 rfl in_3 (Nat.succ_ne_zero _) rfl rfl (ne_of_lt (n := 0) (Nat.lt_of_lt_of_eq (by decide) (Eq.symm (GToken.len t0)))))) ?_
         refine r_on rfl rfl rfl rfl (decide_eq_false h22) rfl (PureD.opD (u_ld rfl rfl Tryd.underlying3 rfl rfl ((Sub.refl _).trans (GToken.sub0 t0)))) ?_
         refine r_on rfl rfl rfl rfl (decide_eq_false h22) rfl (PureD.opD (p_ieq rfl rfl rfl)) ?_
         refine rn rfl rfl rfl rfl qq28 rfl (p_pkf rfl rfl (decide_eq_false h22) (tb ((or_l (p := t0.Kind = (3 : Int)) (q := t0.Kind = (5 : Int)) h22)))) ?_
         refine rn rfl rfl rfl rfl qq28 rfl (p_move rfl rfl) ?_
         refine (Classical.em (t0.Kind = (5 : Int))).elim (fun h23 => ?_) (fun h23 => ?_)
         ·have qq30 := decide_eq_true (p := (t0.Kind = (3 : Int)) ∨ (t0.Kind = (5 : Int))) (Or.inr h23)
          refine rn rfl rfl rfl rfl qq30 rfl (u_fa rfl rfl Tryd.underlying49 rfl in_9 (Nat.succ_ne_zero _) rfl rfl (ne_of_lt (n := 0) (Nat.lt_of_lt_of_eq (by decide) (Eq.symm (GToken.len t0))))) ?_
          refine rn rfl rfl rfl rfl qq30 rfl (u_ld rfl rfl Tryd.underlying9 rfl rfl ((Sub.refl _).trans (GToken.sub1 t0))) ?_
          refine rn rfl rfl rfl rfl qq30 rfl (p_sne rfl rfl rfl) ?_
          refine rn rfl rfl rfl rfl qq28 rfl (p_pkt rfl rfl qq30 (tb ((and_l (p := (t0.Kind = (3 : Int)) ∨ (t0.Kind = (5 : Int))) (q := t0.Text ≠ []) (Or.inr h23))))) ?_
          refine rp rfl rfl (p_pkf rfl rfl qq28 (tb ((or_l (p := ((t0.Kind ≠ (3 : Int)) ∧ (t0.Int_ ≠ (0 : Int))) ∨ ((t0.Kind ≠ (5 : Int)) ∧ (t0.Bits ≠ (0 : UInt64)))) (q := ((t0.Kind = (3 : Int)) ∨ (t0.Kind = (5 : Int))) ∧ (t0.Text ≠ [])) (not_or.2 ⟨(fun h => h10 h.1), (fun h => h18 h.1)⟩))))) ?_
          refine rs [(1, .q 1 (0)), (69, .b (decide ((((t0.Kind ≠ (3 : Int)) ∧ (t0.Int_ ≠ (0 : Int))) ∨ ((t0.Kind ≠ (5 : Int)) ∧ (t0.Bits ≠ (0 : UInt64)))) ∨ (((t0.Kind = (3 : Int)) ∨ (t0.Kind = (5 : Int))) ∧ (t0.Text ≠ [])))))] [(1, .pure (GToken.cs t0))] rfl rfl rfl ?_
          exact RunW_nil rfl
         ·have qq31 := decide_eq_false (p := (t0.Kind = (3 : Int)) ∨ (t0.Kind = (5 : Int))) (not_or.2 ⟨h22, h23⟩)
          iterate 3 (refine r_off rfl rfl rfl rfl qq31 rfl rfl ?_)
          refine rn rfl rfl rfl rfl qq28 rfl (p_pkf rfl rfl qq31 (tb (decide_eq_false (p := ((t0.Kind = (3 : Int)) ∨ (t0.Kind = (5 : Int))) ∧ (t0.Text ≠ [])) (fun x => (not_or.2 ⟨h22, h23⟩) x.1)).symm)) ?_
          refine rp rfl rfl (p_pkf rfl rfl qq28 (tb ((or_l (p := ((t0.Kind ≠ (3 : Int)) ∧ (t0.Int_ ≠ (0 : Int))) ∨ ((t0.Kind ≠ (5 : Int)) ∧ (t0.Bits ≠ (0 : UInt64)))) (q := ((t0.Kind = (3 : Int)) ∨ (t0.Kind = (5 : Int))) ∧ (t0.Text ≠ [])) (not_or.2 ⟨(fun h => h10 h.1), (fun h => h18 h.1)⟩))))) ?_
          refine rs [(1, .q 1 (0)), (69, .b (decide ((((t0.Kind ≠ (3 : Int)) ∧ (t0.Int_ ≠ (0 : Int))) ∨ ((t0.Kind ≠ (5 : Int)) ∧ (t0.Bits ≠ (0 : UInt64)))) ∨ (((t0.Kind = (3 : Int)) ∨ (t0.Kind = (5 : Int))) ∧ (t0.Text ≠ [])))))] [(1, .pure (GToken.cs t0))] rfl rfl rfl ?_
          exact RunW_nil rfl
     ·refine gen1 (fun t69'2 => (⟨[(1, .q 1 (0)), (69, .b t69'2)], [(1, .pure (GToken.cs t0))], 112⟩ : TS)) H ?_
      intro t69'2 H
      refine AW2_cond rfl (fun h24 => ?_) (fun h24 => ?_)
      ·replace H := ite_then h24 H
       refine sg [0] rfl ?_
       refine rp rfl rfl (p_asg rfl rfl) ?_
       refine rz [(2, .i (3 : Int))] [] rfl rfl rfl ?_
       refine AW2_ret ?_
       have hz := some_elim H
       subst hz
       exact ⟨⟨res_tmp (.same _), trivial⟩, trivial⟩
      ·replace H := ite_else (ne_true h24) H
       refine as2 [(1, .q 1 (0))] [(1, .pure (GToken.cs t0))] rfl rfl rfl ?_
       refine AW2_skip ?_
       refine sg [0] rfl ?_
       refine rp rfl rfl (p_asg rfl rfl) ?_
       refine rz [(1, .q 1 (0)), (3, .b true)] [(1, .pure (GToken.cs t0))] rfl rfl rfl ?_
       refine AW2_seq ?_
       refine bindK H fun j'3 h25 H => ?_
       refine AW2_mid (⟨[(3, .b j'3)], [], 112⟩ : TS) ?_ ?_
       ·clear H
        have H := h25
        clear h25
        refine sg [0, 1] rfl ?_
        refine rp rfl rfl (u_fa rfl rfl Tryd.underlying49 rfl in_3 (Nat.succ_ne_zero _) rfl rfl (ne_of_lt (n := 0) (Nat.lt_of_lt_of_eq (by decide) (Eq.symm (GToken.len t0))))) ?_
        refine rp rfl rfl (u_ld rfl rfl Tryd.underlying3 rfl rfl ((Sub.refl _).trans (GToken.sub0 t0))) ?_
        refine rz [(1, .q 1 (0)), (3, .b true), (71, .i t0.Kind)] [(1, .pure (GToken.cs t0))] rfl rfl rfl ?_
        refine AW2_block ?_
        refine sg [0, 1] rfl ?_
        refine rp rfl rfl (p_ieq rfl rfl rfl) ?_
        refine rp rfl rfl (p_asg rfl rfl) ?_
        refine rz [(1, .q 1 (0)), (3, .b true), (71, .i t0.Kind), (72, .b (decide (t0.Kind = (1 : Int))))] [(1, .pure (GToken.cs t0))] rfl rfl rfl ?_
        refine AW2_if (p := t0.Kind = (1 : Int)) rfl (fun h26 => ?_) (fun h26 => ?_)
        ·replace H := ite_then h26 H
         refine bindK H fun g'7 h33 H => ?_
         refine AW2_mid (⟨[(3, .b g'7)], [], 112⟩ : TS) ?_ ?_
         ·clear H
          have H := h33
          clear h33
          refine AW2_reg [0, 1, 2, 3, 4, 5, 6, 7, 8, 9] rfl ?_
          refine rp rfl rfl (u_fa rfl rfl Tryd.underlying49 rfl in_9 (Nat.succ_ne_zero _) rfl rfl (ne_of_lt (n := 0) (Nat.lt_of_lt_of_eq (by decide) (Eq.symm (GToken.len t0))))) ?_
          refine rp rfl rfl (u_ld rfl rfl Tryd.underlying9 rfl rfl ((Sub.refl _).trans (GToken.sub1 t0))) ?_
          refine bindK H fun r'5 h29 H => ?_
          refine rp rfl rfl (p_calll rfl rfl rfl Tryd.func29 rfl rfl (g_lex_all_i0_ac h29) rfl ⟨lend_p rfl, lend_clo rfl rfl trivial, trivial⟩) ?_
          refine rp rfl rfl (p_move rfl rfl) ?_
          refine (Classical.em (r'5 = true)).elim (fun h30 => ?_) (fun h30 => ?_)
          ·replace H := ite_then h30 H
           refine rn rfl rfl rfl rfl h30 rfl (u_fa rfl rfl Tryd.underlying49 rfl in_9 (Nat.succ_ne_zero _) rfl rfl (ne_of_lt (n := 0) (Nat.lt_of_lt_of_eq (by decide) (Eq.symm (GToken.len t0))))) ?_
           refine rn rfl rfl rfl rfl h30 rfl (u_ld rfl rfl Tryd.underlying9 rfl rfl ((Sub.refl _).trans (GToken.sub1 t0))) ?_
           refine chkK H fun h31 H => ?_
           refine rn rfl rfl rfl rfl h30 rfl (p_ixt rfl Tryd.underlying9 rfl rfl rfl (lrd_get h31)) ?_
           refine bindK H fun r'6 h32 H => ?_
           refine rn rfl rfl rfl rfl h30 rfl (p_callp rfl rfl rfl Tryd.func31 rfl rfl (g_lex_small_ac h32) ⟨rfl, trivial⟩) ?_
           refine rp rfl rfl (p_pkt rfl rfl h30 (.same _)) ?_
           refine rp rfl rfl (p_asg rfl rfl) ?_
           refine rs [(3, .b r'6)] [] rfl rfl rfl ?_
           have hz := some_elim H
           subst hz
           exact RunW_nil rfl
          ·replace H := ite_else h30 H
           iterate 4 (refine r_off rfl rfl rfl rfl (bfalse h30) rfl rfl ?_)
           refine rp rfl rfl (p_pkf rfl rfl (bfalse h30) (.same _)) ?_
           refine rp rfl rfl (p_asg rfl rfl) ?_
           refine rs [(3, .b false)] [] rfl rfl rfl ?_
           have hz := some_elim H
           subst hz
           exact RunW_nil rfl
         ·have hz := some_elim H
          subst hz
          exact rfl
        ·replace H := ite_else h26 H
         refine sg [0, 1] rfl ?_
         refine rp rfl rfl (p_ieq rfl rfl rfl) ?_
         refine rp rfl rfl (p_asg rfl rfl) ?_
         refine rz [(1, .q 1 (0)), (3, .b true), (71, .i t0.Kind), (83, .b (decide (t0.Kind = (2 : Int))))] [(1, .pure (GToken.cs t0))] rfl rfl rfl ?_
         refine AW2_if (p := t0.Kind = (2 : Int)) rfl (fun h35 => ?_) (fun h35 => ?_)
         ·replace H := ite_then h35 H
          refine AW2_reg [0, 1, 2, 3] rfl ?_
          refine rp rfl rfl (u_fa rfl rfl Tryd.underlying49 rfl in_9 (Nat.succ_ne_zero _) rfl rfl (ne_of_lt (n := 0) (Nat.lt_of_lt_of_eq (by decide) (Eq.symm (GToken.len t0))))) ?_
          refine rp rfl rfl (u_ld rfl rfl Tryd.underlying9 rfl rfl ((Sub.refl _).trans (GToken.sub1 t0))) ?_
          refine bindK H fun r'8 h36 H => ?_
          refine rp rfl rfl (p_calll rfl rfl rfl Tryd.func29 rfl rfl (g_lex_all_i1_ac h36) rfl ⟨lend_p rfl, lend_clo rfl rfl trivial, trivial⟩) ?_
          refine rp rfl rfl (p_asg rfl rfl) ?_
          refine rz [(3, .b r'8)] [] rfl rfl rfl ?_
          have hz := some_elim H
          subst hz
          exact rfl
         ·replace H := ite_else h35 H
          refine sg [0, 1] rfl ?_
          refine rp rfl rfl (p_ieq rfl rfl rfl) ?_
          refine rp rfl rfl (p_asg rfl rfl) ?_
          refine rz [(1, .q 1 (0)), (3, .b true), (71, .i t0.Kind), (88, .b (decide (t0.Kind = (3 : Int))))] [(1, .pure (GToken.cs t0))] rfl rfl rfl ?_
          refine AW2_if (p := t0.Kind = (3 : Int)) rfl (fun h37 => ?_) (fun h37 => ?_)
          ·replace H := ite_then h37 H
           refine AW2_reg [0, 1, 2, 3] rfl ?_
           refine rp rfl rfl (u_fa rfl rfl Tryd.underlying49 rfl in_3 (Nat.succ_ne_zero _) rfl rfl (ne_of_lt (n := 0) (Nat.lt_of_lt_of_eq (by decide) (Eq.symm (GToken.len t0))))) ?_
           refine rp rfl rfl (u_ld rfl rfl Tryd.underlying3 rfl rfl ((Sub.refl _).trans (GToken.sub2 t0))) ?_
           refine rp rfl rfl (p_bin rfl rfl rfl rfl) ?_
           refine rp rfl rfl (p_asg rfl rfl) ?_
           refine rz [(3, .b (decide (t0.Int_ ≥ (0 : Int))))] [] rfl rfl rfl ?_
           have hz := some_elim H
           subst hz
           exact rfl
          ·replace H := ite_else h37 H
           refine sg [0, 1] rfl ?_
           refine rp rfl rfl (p_ieq rfl rfl rfl) ?_
           refine rp rfl rfl (p_asg rfl rfl) ?_
           refine rz [(1, .q 1 (0)), (3, .b true), (71, .i t0.Kind), (93, .b (decide (t0.Kind = (4 : Int))))] [(1, .pure (GToken.cs t0))] rfl rfl rfl ?_
           refine AW2_if (p := t0.Kind = (4 : Int)) rfl (fun h38 => ?_) (fun h38 => ?_)
           ·replace H := ite_then h38 H
            refine AW2_reg [0, 1, 2, 3] rfl ?_
            refine rp rfl rfl (u_fa rfl rfl Tryd.underlying49 rfl in_9 (Nat.succ_ne_zero _) rfl rfl (ne_of_lt (n := 0) (Nat.lt_of_lt_of_eq (by decide) (Eq.symm (GToken.len t0))))) ?_
            refine rp rfl rfl (u_ld rfl rfl Tryd.underlying9 rfl rfl ((Sub.refl _).trans (GToken.sub1 t0))) ?_
            refine bindK H fun r'9 h39 H => ?_
            refine rp rfl rfl (p_callp rfl rfl rfl Tryd.func26 rfl rfl (g_utf8_ValidString_ac h39) ⟨rfl, trivial⟩) ?_
            refine rp rfl rfl (p_asg rfl rfl) ?_
            refine rz [(3, .b r'9)] [] rfl rfl rfl ?_
            have hz := some_elim H
            subst hz
            exact rfl
           ·replace H := ite_else h38 H
            refine sg [0, 1] rfl ?_
            refine rp rfl rfl (p_ieq rfl rfl rfl) ?_
            refine rp rfl rfl (p_asg rfl rfl) ?_
            refine rz [(1, .q 1 (0)), (3, .b true), (71, .i t0.Kind), (98, .b (decide (t0.Kind = (5 : Int))))] [(1, .pure (GToken.cs t0))] rfl rfl rfl ?_
            refine AW2_if (p := t0.Kind = (5 : Int)) rfl (fun h40 => ?_) (fun h40 => ?_)
            ·replace H := ite_then h40 H
             refine AW2_reg [0, 1, 2, 3, 4, 5] rfl ?_
             refine rp rfl rfl (u_fa rfl rfl Tryd.underlying49 rfl in_22 (Nat.succ_ne_zero _) rfl rfl (ne_of_lt (n := 0) (Nat.lt_of_lt_of_eq (by decide) (Eq.symm (GToken.len t0))))) ?_
             refine rp rfl rfl (u_ld rfl rfl Tryd.underlying22 rfl rfl ((Sub.refl _).trans (GToken.sub3 t0))) ?_
             refine rp rfl rfl (u_bld rfl in_24 one_24 zc_24 pl_24 rfl (af_cons rfl rfl (GValue.upd0 GValue.zero (3 : Int)) (af_cons rfl rfl (GValue.upd2 ((GValue.w0 GValue.zero (3 : Int))) t0.Bits) rfl))) ?_
             refine bindK H fun r'10 h41 H => ?_
             refine rp rfl rfl (p_callp rfl rfl rfl Tryd.func24 rfl rfl (g_value_Check_ac h41) ⟨rfl, trivial⟩) ?_
             refine rp rfl rfl (p_ieq rfl rfl rfl) ?_
             refine rp rfl rfl (p_asg rfl rfl) ?_
             refine rz [(3, .b (decide (r'10 = (0 : Int))))] [] rfl rfl rfl ?_
             have hz := some_elim H
             subst hz
             exact rfl
            ·replace H := ite_else h40 H
             refine sg [0, 1] rfl ?_
             refine rp rfl rfl (p_ieq rfl rfl rfl) ?_
             refine rp rfl rfl (p_asg rfl rfl) ?_
             refine rz [(1, .q 1 (0)), (3, .b true), (105, .b (decide (t0.Kind = (6 : Int))))] [(1, .pure (GToken.cs t0))] rfl rfl rfl ?_
             refine AW2_if (p := t0.Kind = (6 : Int)) rfl (fun h42 => ?_) (fun h42 => ?_)
             ·replace H := ite_then h42 H
              refine AW2_reg [0, 1, 2, 3] rfl ?_
              refine rp rfl rfl (u_fa rfl rfl Tryd.underlying49 rfl in_9 (Nat.succ_ne_zero _) rfl rfl (ne_of_lt (n := 0) (Nat.lt_of_lt_of_eq (by decide) (Eq.symm (GToken.len t0))))) ?_
              refine rp rfl rfl (u_ld rfl rfl Tryd.underlying9 rfl rfl ((Sub.refl _).trans (GToken.sub1 t0))) ?_
              refine bindK H fun r'11 h43 H => ?_
              refine rp rfl rfl (p_callp rfl rfl rfl Tryd.func33 rfl rfl (g_lex_sign_ac h43) ⟨rfl, trivial⟩) ?_
              refine rp rfl rfl (p_asg rfl rfl) ?_
              refine rz [(3, .b r'11)] [] rfl rfl rfl ?_
              have hz := some_elim H
              subst hz
              exact rfl
             ·replace H := ite_else h42 H
              refine as2 [(3, .b true)] [] rfl rfl rfl ?_
              refine AW2_skip ?_
              have hz := some_elim H
              subst hz
              exact rfl
       ·refine AW2_seq ?_
        refine sg [0, 1] rfl ?_
        refine rp rfl rfl (p_move rfl rfl) ?_
        refine rp rfl rfl (p_not rfl rfl) ?_
        refine rz [(111, .b (!j'3))] [] rfl rfl rfl ?_
        refine AW2_cond rfl (fun h44 => ?_) (fun h44 => ?_)
        ·replace H := ite_then h44 H
         refine sg [0] rfl ?_
         refine rp rfl rfl (p_asg rfl rfl) ?_
         refine rz [(2, .i (3 : Int))] [] rfl rfl rfl ?_
         refine AW2_ret ?_
         have hz := some_elim H
         subst hz
         exact ⟨⟨res_tmp (.same _), trivial⟩, trivial⟩
        ·replace H := ite_else (ne_true h44) H
         refine as2 [] [] rfl rfl rfl ?_
         refine AW2_skip ?_
         refine sg [0] rfl ?_
         refine rp rfl rfl (p_asg rfl rfl) ?_
         refine rz [(2, .i (0 : Int))] [] rfl rfl rfl ?_
         refine AW2_ret ?_
         have hz := some_elim H
         subst hz
         exact ⟨⟨res_tmp (.same _), trivial⟩, trivial⟩

/-! expr.node -/
def g_expr_node_r3 : List (List (Nat × Option Nat)) := [[(1, none)], [(11, some 0)], [(12, some 1)], [(1, none)], [(14, some 3)], [(15, some 4)]]
def g_expr_node_r3c : List (List Nat) := [[], [0], [0, 1], [], [3], [3, 4], [0, 1, 2, 3, 4, 5]]
noncomputable def g_expr_node (e0 : GExpr) : Option (Int) :=
  (if (e0.Op < (1 : Int)) ∨ (e0.Op > (20 : Int)) then some (2 : Int) else (g_expr_wants e0.Op).bind fun r'1 => (if (e0.Args.length : Int) ≠ r'1 then some (3 : Int) else (if ((decide (e0.Op = (2 : Int))) ≠ (decide (e0.Name ≠ []))) ∨ ((e0.Op ≠ (1 : Int)) ∧ (e0.Value ≠ GValue.zero)) then some (3 : Int) else ((if e0.Op = (2 : Int) then (g_lex_Check ({ { GToken.zero with Kind := (1 : Int) } with Text := e0.Name })).bind fun r'3 => some (decide (r'3 ≠ (0 : Int))) else some false)).bind fun g'4 => (if g'4 = true then some (3 : Int) else ((if e0.Op = (1 : Int) then (g_value_Check e0.Value).bind fun r'6 => (if r'6 ≠ (0 : Int) then some true else some (decide (e0.Value.Int_ < (0 : Int)))) else some false)).bind fun g'7 => (if g'7 = true then some (3 : Int) else some (0 : Int))))))
set_option maxHeartbeats 4000000 in
set_option maxRecDepth 100000 in
theorem g_expr_node_ac {e0 : GExpr} {r : Int} (H : g_expr_node e0 = some r) : ACp Tryd.prog 19 [(.agg (GExpr.cs e0))] (AV.int r) := by
 refine ACp_of (AC2_of_body (vs := [.i r]) Tryd.func19 rfl rfl (Nat.le_of_ble_eq_true rfl) rfl ?_) (fun _ => .same _)
 unfold g_expr_node at H
 refine as2 [(0, .g (GExpr.cs e0))] [] rfl rfl rfl ?_
 refine sg [0, 1] rfl ?_
 refine r_op rfl rfl (MakeD.opD (n_box 1 rfl rfl) rfl rfl rfl rfl) ?_
 refine rp rfl rfl (p_asg rfl rfl) ?_
 refine rz [(1, .q 1 (0))] [(1, .pure (GExpr.cs e0))] rfl rfl rfl ?_
 refine AW2_seq ?_
 refine AW2_seq ?_
 refine AW2_mid (⟨[(1, .q 1 (0)), (10, .b (decide ((e0.Op < (1 : Int)) ∨ (e0.Op > (20 : Int)))))], [(1, .pure (GExpr.cs e0))], 61⟩ : TS) ?_ ?_
 ·refine AW2_reg [0, 1, 2, 3, 4, 5, 6, 7] rfl ?_
  refine rp rfl rfl (u_fa rfl rfl Tryd.underlying27 rfl in_3 (Nat.succ_ne_zero _) rfl rfl (ne_of_lt (n := 0) (Nat.lt_of_lt_of_eq (by decide) (Eq.symm (GExpr.len e0))))) ?_
  refine rp rfl rfl (u_ld rfl rfl Tryd.underlying3 rfl rfl ((Sub.refl _).trans (GExpr.sub0 e0))) ?_
  refine rp rfl rfl (p_bin rfl rfl rfl rfl) ?_
  refine rp rfl rfl (p_move rfl rfl) ?_
  refine (Classical.em (e0.Op < (1 : Int))).elim (fun h1 => ?_) (fun h1 => ?_)
  ·refine r_off rfl rfl rfl rfl (decide_eq_true h1) rfl rfl ?_
   refine r_off rfl rfl rfl rfl (decide_eq_true h1) rfl rfl ?_
   refine r_off rfl rfl rfl rfl (decide_eq_true h1) rfl rfl ?_
   refine rp rfl rfl (p_pkt rfl rfl (decide_eq_true h1) (tb (decide_eq_true (p := (e0.Op < (1 : Int)) ∨ (e0.Op > (20 : Int))) (Or.inl h1)).symm)) ?_
   refine rs [(1, .q 1 (0)), (10, .b (decide ((e0.Op < (1 : Int)) ∨ (e0.Op > (20 : Int)))))] [(1, .pure (GExpr.cs e0))] rfl rfl rfl ?_
   exact RunW_nil rfl
  ·refine r_on rfl rfl rfl rfl (decide_eq_false h1) rfl (PureD.opD (u_fa rfl rfl Tryd.underlying27 rfl in_3 (Nat.succ_ne_zero _) rfl rfl (ne_of_lt (n := 0) (Nat.lt_of_lt_of_eq (by decide) (Eq.symm (GExpr.len e0)))))) ?_
   refine r_on rfl rfl rfl rfl (decide_eq_false h1) rfl (PureD.opD (u_ld rfl rfl Tryd.underlying3 rfl rfl ((Sub.refl _).trans (GExpr.sub0 e0)))) ?_
   refine r_on rfl rfl rfl rfl (decide_eq_false h1) rfl (PureD.opD (p_bin rfl rfl rfl rfl)) ?_
   refine rp rfl rfl (p_pkf rfl rfl (decide_eq_false h1) (tb ((or_l (p := e0.Op < (1 : Int)) (q := e0.Op > (20 : Int)) h1)))) ?_
   refine rs [(1, .q 1 (0)), (10, .b (decide ((e0.Op < (1 : Int)) ∨ (e0.Op > (20 : Int)))))] [(1, .pure (GExpr.cs e0))] rfl rfl rfl ?_
   exact RunW_nil rfl
 ·refine AW2_if (p := (e0.Op < (1 : Int)) ∨ (e0.Op > (20 : Int))) rfl (fun h2 => ?_) (fun h2 => ?_)
  ·replace H := ite_then h2 H
   refine sg [0] rfl ?_
   refine rp rfl rfl (p_asg rfl rfl) ?_
   refine rz [(2, .i (2 : Int))] [] rfl rfl rfl ?_
   refine AW2_ret ?_
   have hz := some_elim H
   subst hz
   exact ⟨⟨res_tmp (.same _), trivial⟩, trivial⟩
  ·replace H := ite_else h2 H
   refine as2 [(1, .q 1 (0))] [(1, .pure (GExpr.cs e0))] rfl rfl rfl ?_
   refine AW2_skip ?_
   refine AW2_seq ?_
   refine AW2_seq ?_
   refine bindK H fun r'1 h3 H => ?_
   refine AW2_ghoQ ?_
   refine AW2_draw 6 [6] (fun k => ([.q 1 (0 + 6), .p ((fun q : List GExpr => AV.lst (q.flatMap GExpr.cs) q.length) e0.Args), .i (e0.Args.length : Int), .q 1 (0 + 0), .i e0.Op, .i r'1] : List TV).getD k TV.any) (fun k => g_expr_node_r3.getD k []) [(1, none), (13, some 2), (16, some 5)] [] (fun k => g_expr_node_r3c.getD k []) mixed (by kernel_rfl) rfl rfl (a_op (g_x rfl (x_p rfl (u_fa rfl rfl Tryd.underlying27 rfl in_25 (Nat.succ_ne_zero _) rfl rfl (ne_of_lt (n := 0) (Nat.lt_of_lt_of_eq (by decide) (Eq.symm (GExpr.len e0))))) rfl)) (a_op (g_x rfl (x_p rfl (u_ld rfl rfl Tryd.underlying25 rfl rfl ((Sub.refl _).trans (GExpr.sub3 e0))) rfl)) (a_op (g_x rfl (x_p rfl (p_lenl rfl Tryd.underlying25 rfl rfl) rfl)) (a_op (g_x rfl (x_p rfl (u_fa rfl rfl Tryd.underlying27 rfl in_3 (Nat.succ_ne_zero _) rfl rfl (ne_of_lt (n := 0) (Nat.lt_of_lt_of_eq (by decide) (Eq.symm (GExpr.len e0))))) rfl)) (a_op (g_x rfl (x_p rfl (u_ld rfl rfl Tryd.underlying3 rfl rfl ((Sub.refl _).trans (GExpr.sub0 e0))) rfl)) (a_op (g_x rfl (x_p rfl (p_callp rfl rfl rfl Tryd.func22 rfl rfl (g_expr_wants_ac h3) ⟨rfl, trivial⟩) rfl)) (a_nil))))))) ?_
   refine t_op rfl rfl (PureD.opD (p_ine rfl rfl rfl)) ?_
   refine t_gho (Gho_st (L := [(1, .q 1 (0)), (17, .b (decide ((e0.Args.length : Int) ≠ r'1)))]) (H := [(1, .pure (GExpr.cs e0))]) (N := 61) rfl ⟨TLes.same _, TLes.same _, trivial⟩ ⟨rfl, trivial⟩) ?_
   refine AW2_if (p := (e0.Args.length : Int) ≠ r'1) rfl (fun h4 => ?_) (fun h4 => ?_)
   ·replace H := ite_then h4 H
    refine sg [0] rfl ?_
    refine rp rfl rfl (p_asg rfl rfl) ?_
    refine rz [(2, .i (3 : Int))] [] rfl rfl rfl ?_
    refine AW2_ret ?_
    have hz := some_elim H
    subst hz
    exact ⟨⟨res_tmp (.same _), trivial⟩, trivial⟩
   ·replace H := ite_else h4 H
    refine as2 [(1, .q 1 (0))] [(1, .pure (GExpr.cs e0))] rfl rfl rfl ?_
    refine AW2_skip ?_
    refine AW2_seq ?_
    refine AW2_seq ?_
    refine AW2_mid (⟨[(1, .q 1 (0)), (35, .b (decide (((decide (e0.Op = (2 : Int))) ≠ (decide (e0.Name ≠ []))) ∨ ((e0.Op ≠ (1 : Int)) ∧ (e0.Value ≠ GValue.zero)))))], [(1, .pure (GExpr.cs e0))], 61⟩ : TS) ?_ ?_
    ·refine AW2_reg [0, 1, 2, 3, 4, 5, 6, 7, 8, 9, 10, 11, 12, 13, 14, 15, 16, 17] rfl ?_
     refine rp rfl rfl (u_fa rfl rfl Tryd.underlying27 rfl in_3 (Nat.succ_ne_zero _) rfl rfl (ne_of_lt (n := 0) (Nat.lt_of_lt_of_eq (by decide) (Eq.symm (GExpr.len e0))))) ?_
     refine rp rfl rfl (u_ld rfl rfl Tryd.underlying3 rfl rfl ((Sub.refl _).trans (GExpr.sub0 e0))) ?_
     refine rp rfl rfl (p_ieq rfl rfl rfl) ?_
     refine rp rfl rfl (u_fa rfl rfl Tryd.underlying27 rfl in_9 (Nat.succ_ne_zero _) rfl rfl (ne_of_lt (n := 0) (Nat.lt_of_lt_of_eq (by decide) (Eq.symm (GExpr.len e0))))) ?_
     refine rp rfl rfl (u_ld rfl rfl Tryd.underlying9 rfl rfl ((Sub.refl _).trans (GExpr.sub2 e0))) ?_
     refine rp rfl rfl (p_sne rfl rfl rfl) ?_
     refine rp rfl rfl (p_bnep rfl Tryd.underlying4 rfl rfl) ?_
     refine rp rfl rfl (p_move rfl rfl) ?_
     refine (Classical.em ((decide (e0.Op = (2 : Int))) ≠ (decide (e0.Name ≠ [])))).elim (fun h5 => ?_) (fun h5 => ?_)
     ·refine r_off rfl rfl rfl rfl (decide_eq_true h5) rfl rfl ?_
      refine r_off rfl rfl rfl rfl (decide_eq_true h5) rfl rfl ?_
      refine r_off rfl rfl rfl rfl (decide_eq_true h5) rfl rfl ?_
      refine r_off rfl rfl rfl rfl (decide_eq_true h5) rfl rfl ?_
      refine r_off2 rfl rfl rfl rfl rfl rfl ?_
      refine r_off2 rfl rfl rfl rfl rfl rfl ?_
      refine r_off2 rfl rfl rfl rfl rfl rfl ?_
      refine r_off2 rfl rfl rfl rfl rfl rfl ?_
      refine r_off rfl rfl rfl rfl (decide_eq_true h5) rfl rfl ?_
      refine rp rfl rfl (p_pkt rfl rfl (decide_eq_true h5) (tb (decide_eq_true (p := ((decide (e0.Op = (2 : Int))) ≠ (decide (e0.Name ≠ []))) ∨ ((e0.Op ≠ (1 : Int)) ∧ (e0.Value ≠ GValue.zero))) (Or.inl h5)).symm)) ?_
      refine rs [(1, .q 1 (0)), (35, .b (decide (((decide (e0.Op = (2 : Int))) ≠ (decide (e0.Name ≠ []))) ∨ ((e0.Op ≠ (1 : Int)) ∧ (e0.Value ≠ GValue.zero)))))] [(1, .pure (GExpr.cs e0))] rfl rfl rfl ?_
      exact RunW_nil rfl
     ·refine r_on rfl rfl rfl rfl (decide_eq_false h5) rfl (PureD.opD (u_fa rfl rfl Tryd.underlying27 rfl in_3 (Nat.succ_ne_zero _) rfl rfl (ne_of_lt (n := 0) (Nat.lt_of_lt_of_eq (by decide) (Eq.symm (GExpr.len e0)))))) ?_
      refine r_on rfl rfl rfl rfl (decide_eq_false h5) rfl (PureD.opD (u_ld rfl rfl Tryd.underlying3 rfl rfl ((Sub.refl _).trans (GExpr.sub0 e0)))) ?_
      refine r_on rfl rfl rfl rfl (decide_eq_false h5) rfl (PureD.opD (p_ine rfl rfl rfl)) ?_
      refine r_on rfl rfl rfl rfl (decide_eq_false h5) rfl (PureD.opD (p_move rfl rfl)) ?_
      refine (Classical.em (e0.Op ≠ (1 : Int))).elim (fun h6 => ?_) (fun h6 => ?_)
      ·refine r_on rfl rfl rfl rfl (decide_eq_true h6) rfl (PureD.opD (u_fa rfl rfl Tryd.underlying27 rfl in_24 (Nat.succ_ne_zero _) rfl rfl (ne_of_lt (n := 0) (Nat.lt_of_lt_of_eq (by decide) (Eq.symm (GExpr.len e0)))))) ?_
       refine r_on rfl rfl rfl rfl (decide_eq_true h6) rfl (PureD.opD (u_lda rfl rfl Tryd.underlying24 rfl in_24 rfl (Nat.succ_pos _) ((Sub.refl _).trans (GExpr.sub1 e0)) (GValue.len e0.Value))) ?_
       refine r_on rfl rfl rfl rfl (decide_eq_true h6) rfl (PureD.opD (u_bld rfl in_24 one_24 zc_24 pl_24 rfl rfl)) ?_
       refine r_on rfl rfl rfl rfl (decide_eq_true h6) rfl (PureD.opD (p_nea (a := e0.Value) (b := GValue.zero) rfl eq_24 rfl (by kernel_rfl) rfl rfl)) ?_
       refine r_on rfl rfl rfl rfl (decide_eq_false h5) rfl (PureD.opD (p_pkt rfl rfl (decide_eq_true h6) (tb ((and_l (p := e0.Op ≠ (1 : Int)) (q := e0.Value ≠ GValue.zero) h6))))) ?_
       refine rp rfl rfl (p_pkf rfl rfl (decide_eq_false h5) (tb ((or_l (p := (decide (e0.Op = (2 : Int))) ≠ (decide (e0.Name ≠ []))) (q := (e0.Op ≠ (1 : Int)) ∧ (e0.Value ≠ GValue.zero)) h5)))) ?_
       refine rs [(1, .q 1 (0)), (35, .b (decide (((decide (e0.Op = (2 : Int))) ≠ (decide (e0.Name ≠ []))) ∨ ((e0.Op ≠ (1 : Int)) ∧ (e0.Value ≠ GValue.zero)))))] [(1, .pure (GExpr.cs e0))] rfl rfl rfl ?_
       exact RunW_nil rfl
      ·refine r_off rfl rfl rfl rfl (decide_eq_false h6) rfl rfl ?_
       refine r_off rfl rfl rfl rfl (decide_eq_false h6) rfl rfl ?_
       refine r_off rfl rfl rfl rfl (decide_eq_false h6) rfl rfl ?_
       refine r_off rfl rfl rfl rfl (decide_eq_false h6) rfl rfl ?_
       refine r_on rfl rfl rfl rfl (decide_eq_false h5) rfl (PureD.opD (p_pkf rfl rfl (decide_eq_false h6) (tb (decide_eq_false (p := (e0.Op ≠ (1 : Int)) ∧ (e0.Value ≠ GValue.zero)) (fun x => h6 x.1)).symm))) ?_
       refine rp rfl rfl (p_pkf rfl rfl (decide_eq_false h5) (tb ((or_l (p := (decide (e0.Op = (2 : Int))) ≠ (decide (e0.Name ≠ []))) (q := (e0.Op ≠ (1 : Int)) ∧ (e0.Value ≠ GValue.zero)) h5)))) ?_
       refine rs [(1, .q 1 (0)), (35, .b (decide (((decide (e0.Op = (2 : Int))) ≠ (decide (e0.Name ≠ []))) ∨ ((e0.Op ≠ (1 : Int)) ∧ (e0.Value ≠ GValue.zero)))))] [(1, .pure (GExpr.cs e0))] rfl rfl rfl ?_
       exact RunW_nil rfl
    ·refine AW2_if (p := ((decide (e0.Op = (2 : Int))) ≠ (decide (e0.Name ≠ []))) ∨ ((e0.Op ≠ (1 : Int)) ∧ (e0.Value ≠ GValue.zero))) rfl (fun h7 => ?_) (fun h7 => ?_)
     ·replace H := ite_then h7 H
      refine sg [0] rfl ?_
      refine rp rfl rfl (p_asg rfl rfl) ?_
      refine rz [(2, .i (3 : Int))] [] rfl rfl rfl ?_
      refine AW2_ret ?_
      have hz := some_elim H
      subst hz
      exact ⟨⟨res_tmp (.same _), trivial⟩, trivial⟩
     ·replace H := ite_else h7 H
      refine as2 [(1, .q 1 (0))] [(1, .pure (GExpr.cs e0))] rfl rfl rfl ?_
      refine AW2_skip ?_
      refine AW2_seq ?_
      refine AW2_seq ?_
      refine bindK H fun g'4 h11 H => ?_
      refine AW2_mid (⟨[(1, .q 1 (0)), (45, .b g'4)], [(1, .pure (GExpr.cs e0))], 61⟩ : TS) ?_ ?_
      ·clear H
       have H := h11
       clear h11
       refine AW2_reg [0, 1, 2, 3, 4, 5, 6, 7, 8, 9] rfl ?_
       refine rp rfl rfl (u_fa rfl rfl Tryd.underlying27 rfl in_3 (Nat.succ_ne_zero _) rfl rfl (ne_of_lt (n := 0) (Nat.lt_of_lt_of_eq (by decide) (Eq.symm (GExpr.len e0))))) ?_
       refine rp rfl rfl (u_ld rfl rfl Tryd.underlying3 rfl rfl ((Sub.refl _).trans (GExpr.sub0 e0))) ?_
       refine rp rfl rfl (p_ieq rfl rfl rfl) ?_
       refine rp rfl rfl (p_move rfl rfl) ?_
       refine (Classical.em (e0.Op = (2 : Int))).elim (fun h9 => ?_) (fun h9 => ?_)
       ·replace H := ite_then h9 H
        refine r_on rfl rfl rfl rfl (decide_eq_true h9) rfl (PureD.opD (u_fa rfl rfl Tryd.underlying27 rfl in_9 (Nat.succ_ne_zero _) rfl rfl (ne_of_lt (n := 0) (Nat.lt_of_lt_of_eq (by decide) (Eq.symm (GExpr.len e0)))))) ?_
        refine r_on rfl rfl rfl rfl (decide_eq_true h9) rfl (PureD.opD (u_ld rfl rfl Tryd.underlying9 rfl rfl ((Sub.refl _).trans (GExpr.sub2 e0)))) ?_
        refine r_on rfl rfl rfl rfl (decide_eq_true h9) rfl (PureD.opD (u_bld rfl in_49 one_49 zc_49 pl_49 rfl (af_cons rfl rfl (GToken.upd0 GToken.zero (1 : Int)) (af_cons rfl rfl (GToken.upd1 ((GToken.w0 GToken.zero (1 : Int))) e0.Name) rfl)))) ?_
        refine bindK H fun r'3 h10 H => ?_
        refine r_on rfl rfl rfl rfl (decide_eq_true h9) rfl (PureD.opD (p_callp rfl rfl rfl Tryd.func23 rfl rfl (g_lex_Check_ac h10) ⟨rfl, trivial⟩)) ?_
        refine r_on rfl rfl rfl rfl (decide_eq_true h9) rfl (PureD.opD (p_ine rfl rfl rfl)) ?_
        refine rp rfl rfl (p_pkt rfl rfl (decide_eq_true h9) (.same _)) ?_
        refine rs [(1, .q 1 (0)), (45, .b (decide (r'3 ≠ (0 : Int))))] [(1, .pure (GExpr.cs e0))] rfl rfl rfl ?_
        have hz := some_elim H
        subst hz
        exact RunW_nil rfl
       ·replace H := ite_else h9 H
        refine r_off rfl rfl rfl rfl (decide_eq_false h9) rfl rfl ?_
        refine r_off rfl rfl rfl rfl (decide_eq_false h9) rfl rfl ?_
        refine r_off rfl rfl rfl rfl (decide_eq_false h9) rfl rfl ?_
        refine r_off rfl rfl rfl rfl (decide_eq_false h9) rfl rfl ?_
        refine r_off rfl rfl rfl rfl (decide_eq_false h9) rfl rfl ?_
        refine rp rfl rfl (p_pkf rfl rfl (decide_eq_false h9) (.same _)) ?_
        refine rs [(1, .q 1 (0)), (45, .b false)] [(1, .pure (GExpr.cs e0))] rfl rfl rfl ?_
        have hz := some_elim H
        subst hz
        exact RunW_nil rfl
      ·refine AW2_cond rfl (fun h12 => ?_) (fun h12 => ?_)
       ·replace H := ite_then h12 H
        refine sg [0] rfl ?_
        refine rp rfl rfl (p_asg rfl rfl) ?_
        refine rz [(2, .i (3 : Int))] [] rfl rfl rfl ?_
        refine AW2_ret ?_
        have hz := some_elim H
        subst hz
        exact ⟨⟨res_tmp (.same _), trivial⟩, trivial⟩
       ·replace H := ite_else (ne_true h12) H
        refine as2 [(1, .q 1 (0))] [(1, .pure (GExpr.cs e0))] rfl rfl rfl ?_
        refine AW2_skip ?_
        refine AW2_seq ?_
        refine AW2_seq ?_
        refine bindK H fun g'7 h17 H => ?_
        refine AW2_mid (⟨[(60, .b g'7)], [], 61⟩ : TS) ?_ ?_
        ·clear H
         have H := h17
         clear h17
         refine AW2_reg [0, 1, 2, 3, 4, 5, 6, 7, 8, 9, 10, 11, 12, 13, 14] rfl ?_
         refine rp rfl rfl (u_fa rfl rfl Tryd.underlying27 rfl in_3 (Nat.succ_ne_zero _) rfl rfl (ne_of_lt (n := 0) (Nat.lt_of_lt_of_eq (by decide) (Eq.symm (GExpr.len e0))))) ?_
         refine rp rfl rfl (u_ld rfl rfl Tryd.underlying3 rfl rfl ((Sub.refl _).trans (GExpr.sub0 e0))) ?_
         refine rp rfl rfl (p_ieq rfl rfl rfl) ?_
         refine rp rfl rfl (p_move rfl rfl) ?_
         refine (Classical.em (e0.Op = (1 : Int))).elim (fun h14 => ?_) (fun h14 => ?_)
         ·replace H := ite_then h14 H
          refine r_on rfl rfl rfl rfl (decide_eq_true h14) rfl (PureD.opD (u_fa rfl rfl Tryd.underlying27 rfl in_24 (Nat.succ_ne_zero _) rfl rfl (ne_of_lt (n := 0) (Nat.lt_of_lt_of_eq (by decide) (Eq.symm (GExpr.len e0)))))) ?_
          refine r_on rfl rfl rfl rfl (decide_eq_true h14) rfl (PureD.opD (u_lda rfl rfl Tryd.underlying24 rfl in_24 rfl (Nat.succ_pos _) ((Sub.refl _).trans (GExpr.sub1 e0)) (GValue.len e0.Value))) ?_
          refine bindK H fun r'6 h15 H => ?_
          refine r_on rfl rfl rfl rfl (decide_eq_true h14) rfl (PureD.opD (p_callp rfl rfl rfl Tryd.func24 rfl rfl (g_value_Check_ac h15) ⟨rfl, trivial⟩)) ?_
          refine r_on rfl rfl rfl rfl (decide_eq_true h14) rfl (PureD.opD (p_ine rfl rfl rfl)) ?_
          refine r_on rfl rfl rfl rfl (decide_eq_true h14) rfl (PureD.opD (p_move rfl rfl)) ?_
          refine (Classical.em (r'6 ≠ (0 : Int))).elim (fun h16 => ?_) (fun h16 => ?_)
          ·replace H := ite_then h16 H
           refine r_off rfl rfl rfl rfl (decide_eq_true h16) rfl rfl ?_
           refine r_off rfl rfl rfl rfl (decide_eq_true h16) rfl rfl ?_
           refine r_off rfl rfl rfl rfl (decide_eq_true h16) rfl rfl ?_
           refine r_off rfl rfl rfl rfl (decide_eq_true h16) rfl rfl ?_
           refine r_on rfl rfl rfl rfl (decide_eq_true h14) rfl (PureD.opD (p_pkt rfl rfl (decide_eq_true h16) (.same _))) ?_
           refine rp rfl rfl (p_pkt rfl rfl (decide_eq_true h14) (.same _)) ?_
           refine rs [(60, .b true)] [] rfl rfl rfl ?_
           have hz := some_elim H
           subst hz
           exact RunW_nil rfl
          ·replace H := ite_else h16 H
           refine r_on rfl rfl rfl rfl (decide_eq_false h16) rfl (PureD.opD (u_fa rfl rfl Tryd.underlying27 rfl in_24 (Nat.succ_ne_zero _) rfl rfl (ne_of_lt (n := 0) (Nat.lt_of_lt_of_eq (by decide) (Eq.symm (GExpr.len e0)))))) ?_
           refine r_on rfl rfl rfl rfl (decide_eq_false h16) rfl (PureD.opD (u_fa rfl rfl Tryd.underlying24 rfl in_3 (Nat.succ_ne_zero _) rfl rfl (ne_of_lt (n := 0) (Nat.lt_of_lt_of_eq (by decide) (Eq.symm (GExpr.len e0)))))) ?_
           refine r_on rfl rfl rfl rfl (decide_eq_false h16) rfl (PureD.opD (u_ld rfl rfl Tryd.underlying3 rfl rfl (((Sub.refl _).trans (GExpr.sub1 e0)).trans (GValue.sub1 e0.Value)))) ?_
           refine r_on rfl rfl rfl rfl (decide_eq_false h16) rfl (PureD.opD (p_bin rfl rfl rfl rfl)) ?_
           refine r_on rfl rfl rfl rfl (decide_eq_true h14) rfl (PureD.opD (p_pkf rfl rfl (decide_eq_false h16) (.same _))) ?_
           refine rp rfl rfl (p_pkt rfl rfl (decide_eq_true h14) (.same _)) ?_
           refine rs [(60, .b (decide (e0.Value.Int_ < (0 : Int))))] [] rfl rfl rfl ?_
           have hz := some_elim H
           subst hz
           exact RunW_nil rfl
         ·replace H := ite_else h14 H
          refine r_off rfl rfl rfl rfl (decide_eq_false h14) rfl rfl ?_
          refine r_off rfl rfl rfl rfl (decide_eq_false h14) rfl rfl ?_
          refine r_off rfl rfl rfl rfl (decide_eq_false h14) rfl rfl ?_
          refine r_off rfl rfl rfl rfl (decide_eq_false h14) rfl rfl ?_
          refine r_off rfl rfl rfl rfl (decide_eq_false h14) rfl rfl ?_
          refine r_off2 rfl rfl rfl rfl rfl rfl ?_
          refine r_off2 rfl rfl rfl rfl rfl rfl ?_
          refine r_off2 rfl rfl rfl rfl rfl rfl ?_
          refine r_off2 rfl rfl rfl rfl rfl rfl ?_
          refine r_off rfl rfl rfl rfl (decide_eq_false h14) rfl rfl ?_
          refine rp rfl rfl (p_pkf rfl rfl (decide_eq_false h14) (.same _)) ?_
          refine rs [(60, .b false)] [] rfl rfl rfl ?_
          have hz := some_elim H
          subst hz
          exact RunW_nil rfl
        ·refine AW2_cond rfl (fun h18 => ?_) (fun h18 => ?_)
         ·replace H := ite_then h18 H
          refine sg [0] rfl ?_
          refine rp rfl rfl (p_asg rfl rfl) ?_
          refine rz [(2, .i (3 : Int))] [] rfl rfl rfl ?_
          refine AW2_ret ?_
          have hz := some_elim H
          subst hz
          exact ⟨⟨res_tmp (.same _), trivial⟩, trivial⟩
         ·replace H := ite_else (ne_true h18) H
          refine as2 [] [] rfl rfl rfl ?_
          refine AW2_skip ?_
          refine sg [0] rfl ?_
          refine rp rfl rfl (p_asg rfl rfl) ?_
          refine rz [(2, .i (0 : Int))] [] rfl rfl rfl ?_
          refine AW2_ret ?_
          have hz := some_elim H
          subst hz
          exact ⟨⟨res_tmp (.same _), trivial⟩, trivial⟩

/-! expr.nodes -/
noncomputable def g_expr_nodes_l0 (e0 : GExpr) (R' : GExpr → Option Int) : Int → Option (Int ⊕ (Int ⊕ Unit))
  | t15_0 => (if t15_0 < (e0.Args.length : Int) then if 0 ≤ t15_0 ∧ t15_0 < (e0.Args.length : Int) then (R' (lrd e0.Args t15_0.toNat)).bind fun r'2 => (if r'2 ≠ (0 : Int) then some (.inr (.inl r'2)) else some (.inl (w64 (t15_0 + (1 : Int))))) else none else some (.inr (.inr ())))
noncomputable def g_expr_nodes_b (R' : GExpr → Option Int) (e0 : GExpr) : Option (Int) :=
  (g_expr_node e0).bind fun r'1 => (if r'1 ≠ (0 : Int) then some r'1 else (loopO (g_expr_nodes_l0 e0 R') (0 : Int)).bind fun o'6 => match o'6 with | .inl y'7 => some y'7 | .inr (y'8) => some (0 : Int))
noncomputable def g_expr_nodes : Nat → GExpr → Option Int
  | 0, _ => none
  | fu + 1, e0 => g_expr_nodes_b (g_expr_nodes fu) e0
set_option maxHeartbeats 4000000 in
set_option maxRecDepth 100000 in
theorem g_expr_nodes_ac0 {R' : GExpr → Option Int} (hR : ∀ {e0 : GExpr} {r : Int}, R' e0 = some r → ACp Tryd.prog 13 [(.agg (GExpr.cs e0))] (AV.int r)) {e0 : GExpr} {r : Int} (H : g_expr_nodes_b R' e0 = some r) : ACp Tryd.prog 13 [(.agg (GExpr.cs e0))] (AV.int r) := by
 refine ACp_of (AC2_of_body (vs := [.i r]) Tryd.func13 rfl rfl (Nat.le_of_ble_eq_true rfl) rfl ?_) (fun _ => .same _)
 unfold g_expr_nodes_b at H
 refine as2 [(0, .g (GExpr.cs e0))] [] rfl rfl rfl ?_
 refine sg [0, 1] rfl ?_
 refine r_op rfl rfl (MakeD.opD (n_box 1 rfl rfl) rfl rfl rfl rfl) ?_
 refine rp rfl rfl (p_asg rfl rfl) ?_
 refine rz [(1, .q 1 (0))] [(1, .pure (GExpr.cs e0))] rfl rfl rfl ?_
 refine AW2_seq ?_
 refine sg [0, 1, 2] rfl ?_
 refine rp rfl rfl (u_lda rfl rfl Tryd.underlying27 rfl in_27 rfl (Nat.succ_pos _) (Sub.refl _) (GExpr.len e0)) ?_
 refine bindK H fun r'1 h1 H => ?_
 refine rp rfl rfl (p_callp rfl rfl rfl Tryd.func19 rfl rfl (g_expr_node_ac h1) ⟨rfl, trivial⟩) ?_
 refine rp rfl rfl (p_asg rfl rfl) ?_
 refine rz [(1, .q 1 (0)), (3, .i r'1)] [(1, .pure (GExpr.cs e0))] rfl rfl rfl ?_
 refine sg [0, 1] rfl ?_
 refine rp rfl rfl (p_move rfl rfl) ?_
 refine rp rfl rfl (p_ine rfl rfl rfl) ?_
 refine rz [(1, .q 1 (0)), (3, .i r'1), (10, .b (decide (r'1 ≠ (0 : Int))))] [(1, .pure (GExpr.cs e0))] rfl rfl rfl ?_
 refine AW2_if (p := r'1 ≠ (0 : Int)) rfl (fun h2 => ?_) (fun h2 => ?_)
 ·replace H := ite_then h2 H
  refine sg [0, 1] rfl ?_
  refine rp rfl rfl (p_move rfl rfl) ?_
  refine rp rfl rfl (p_asg rfl rfl) ?_
  refine rz [(2, .i r'1)] [] rfl rfl rfl ?_
  refine AW2_ret ?_
  have hz := some_elim H
  subst hz
  exact ⟨⟨res_tmp (.same _), trivial⟩, trivial⟩
 ·replace H := ite_else h2 H
  refine as2 [(1, .q 1 (0))] [(1, .pure (GExpr.cs e0))] rfl rfl rfl ?_
  refine AW2_skip ?_
  refine AW2_seq ?_
  refine sg [0, 1, 2, 3] rfl ?_
  refine rp rfl rfl (u_fa rfl rfl Tryd.underlying27 rfl in_25 (Nat.succ_ne_zero _) rfl rfl (ne_of_lt (n := 0) (Nat.lt_of_lt_of_eq (by decide) (Eq.symm (GExpr.len e0))))) ?_
  refine rp rfl rfl (u_ld rfl rfl Tryd.underlying25 rfl rfl ((Sub.refl _).trans (GExpr.sub3 e0))) ?_
  refine rp rfl rfl (p_lenl rfl Tryd.underlying25 rfl rfl) ?_
  refine rp rfl rfl (p_move rfl rfl) ?_
  refine rz [(13, .p ((fun q : List GExpr => AV.lst (q.flatMap GExpr.cs) q.length) e0.Args)), (14, .i (e0.Args.length : Int)), (15, .i (0 : Int))] [] rfl rfl rfl ?_
  refine AW2_block ?_
  refine as2 [(13, .p ((fun q : List GExpr => AV.lst (q.flatMap GExpr.cs) q.length) e0.Args)), (14, .i (e0.Args.length : Int)), (15, .i (0 : Int))] [] rfl rfl rfl ?_
  refine bindK H fun o'6 h7 H => ?_
  refine AW2_loopO (fun a'3 : Int => (⟨[(13, .p ((fun q : List GExpr => AV.lst (q.flatMap GExpr.cs) q.length) e0.Args)), (14, .i (e0.Args.length : Int)), (15, .i a'3)], [], 25⟩ : TS)) (fun (o : Int ⊕ Unit) e s' => match o with | .inl y'4 => e = Go.Exit.ret ∧ ResAll Tryd.prog s' [ResultVar.tmp 2] [.i y'4] ∧ HFits s' [] | .inr (y'5) => e = Go.Exit.exit 0 ∧ s' = (⟨[], [], 25⟩ : TS)) h7 rfl (fun t15_0 x hx => ?_) (fun e s' hs => ?_)
  ·clear H
   have H := hx
   clear hx
   unfold g_expr_nodes_l0 at H
   refine sg [0] rfl ?_
   refine rp rfl rfl (p_bin rfl rfl rfl rfl) ?_
   refine rz [(13, .p ((fun q : List GExpr => AV.lst (q.flatMap GExpr.cs) q.length) e0.Args)), (14, .i (e0.Args.length : Int)), (15, .i t15_0), (16, .b (decide (t15_0 < (e0.Args.length : Int))))] [] rfl rfl rfl ?_
   refine AW2_seq ?_
   refine AW2_if (p := t15_0 < (e0.Args.length : Int)) rfl (fun h3 => ?_) (fun h3 => ?_)
   ·replace H := ite_then h3 H
    refine as2 [(13, .p ((fun q : List GExpr => AV.lst (q.flatMap GExpr.cs) q.length) e0.Args)), (14, .i (e0.Args.length : Int)), (15, .i t15_0)] [] rfl rfl rfl ?_
    refine AW2_skip ?_
    refine AW2_seq ?_
    refine AW2_block ?_
    refine sg [0, 1, 2, 3] rfl ?_
    refine chkK H fun h4 H => ?_
    refine rp rfl rfl (u_ixl rfl rfl Tryd.underlying25 in_27 rfl rfl (ixe h4) (ixn h4) (fne (fun x => (GExpr.len x)) (by decide) (ixn h4))) ?_
    refine rp rfl rfl (u_lda rfl rfl Tryd.underlying27 rfl in_27 rfl (Nat.succ_pos _) (Sub.fm default (fun x => (GExpr.len x)) (ixn h4)) (GExpr.len (lrd e0.Args t15_0.toNat))) ?_
    refine r_op rfl rfl (MakeD.opD (u_alloc 5 rfl in_27 one_27 zc_27) rfl rfl rfl rfl) ?_
    refine r_op rfl rfl (u_st rfl rfl rfl rfl rfl in_27 (GExpr.len (lrd e0.Args t15_0.toNat)) (ne_of_lt (n := 0) (Nat.lt_of_lt_of_eq (by decide) (Eq.symm (GExpr.len GExpr.zero)))) (Upd.refl ((GExpr.len (lrd e0.Args t15_0.toNat)).trans (GExpr.len GExpr.zero).symm))) ?_
    refine rz [(5, .q 5 (0)), (13, .p ((fun q : List GExpr => AV.lst (q.flatMap GExpr.cs) q.length) e0.Args)), (14, .i (e0.Args.length : Int)), (15, .i t15_0)] [(5, .pure (GExpr.cs (lrd e0.Args t15_0.toNat)))] rfl rfl rfl ?_
    refine sg [0, 1, 2] rfl ?_
    refine rp rfl rfl (u_lda rfl rfl Tryd.underlying27 rfl in_27 rfl (Nat.succ_pos _) (Sub.refl _) (GExpr.len (lrd e0.Args t15_0.toNat))) ?_
    refine bindK H fun r'2 h5 H => ?_
    refine rp rfl rfl (p_callp rfl rfl rfl Tryd.func13 rfl rfl (hR h5) ⟨rfl, trivial⟩) ?_
    refine rp rfl rfl (p_asg rfl rfl) ?_
    refine rz [(6, .i r'2), (13, .p ((fun q : List GExpr => AV.lst (q.flatMap GExpr.cs) q.length) e0.Args)), (14, .i (e0.Args.length : Int)), (15, .i t15_0)] [] rfl rfl rfl ?_
    refine sg [0, 1] rfl ?_
    refine rp rfl rfl (p_move rfl rfl) ?_
    refine rp rfl rfl (p_ine rfl rfl rfl) ?_
    refine rz [(6, .i r'2), (13, .p ((fun q : List GExpr => AV.lst (q.flatMap GExpr.cs) q.length) e0.Args)), (14, .i (e0.Args.length : Int)), (15, .i t15_0), (22, .b (decide (r'2 ≠ (0 : Int))))] [] rfl rfl rfl ?_
    refine AW2_if (p := r'2 ≠ (0 : Int)) rfl (fun h6 => ?_) (fun h6 => ?_)
    ·replace H := ite_then h6 H
     refine sg [0, 1] rfl ?_
     refine rp rfl rfl (p_move rfl rfl) ?_
     refine rp rfl rfl (p_asg rfl rfl) ?_
     refine rz [(2, .i r'2)] [] rfl rfl rfl ?_
     refine AW2_ret ?_
     have hz := some_elim H
     subst hz
     exact ⟨rfl, ⟨res_tmp (.same _), trivial⟩, trivial⟩
    ·replace H := ite_else h6 H
     refine as2 [(13, .p ((fun q : List GExpr => AV.lst (q.flatMap GExpr.cs) q.length) e0.Args)), (14, .i (e0.Args.length : Int)), (15, .i t15_0)] [] rfl rfl rfl ?_
     refine AW2_skip ?_
     refine AW2_reg [0, 1] rfl ?_
     refine rp rfl rfl (p_bin rfl rfl rfl rfl) ?_
     refine rp rfl rfl (p_move rfl rfl) ?_
     refine rz [(13, .p ((fun q : List GExpr => AV.lst (q.flatMap GExpr.cs) q.length) e0.Args)), (14, .i (e0.Args.length : Int)), (15, .i (w64 (t15_0 + (1 : Int))))] [] rfl rfl rfl ?_
     have hz := some_elim H
     subst hz
     exact ⟨rfl, rfl⟩
   ·replace H := ite_else h3 H
    refine as2 [] [] rfl rfl rfl ?_
    refine AW2_exit ?_
    refine thenQ2_exit ?_
    have hz := some_elim H
    subst hz
    exact ⟨rfl, rfl⟩
  ·rcases o'6 with y'7 | y'8
   ·obtain ⟨rfl, hs⟩ := hs
    refine ⟨by simp, ?_⟩
    have hz := some_elim H
    subst hz
    exact ⟨hs.1, hs.2⟩
   ·obtain ⟨rfl, rfl⟩ := hs
    refine ⟨by simp, ?_⟩
    refine blockQ2_exit ?_
    refine sg [0] rfl ?_
    refine rp rfl rfl (p_asg rfl rfl) ?_
    refine rz [(2, .i (0 : Int))] [] rfl rfl rfl ?_
    refine AW2_ret ?_
    have hz := some_elim H
    subst hz
    exact ⟨⟨res_tmp (.same _), trivial⟩, trivial⟩
theorem g_expr_nodes_acN : ∀ (fu : Nat) {e0 : GExpr} {r : Int}, g_expr_nodes fu e0 = some r → ACp Tryd.prog 13 [(.agg (GExpr.cs e0))] (AV.int r)
 | 0, _, _, H => (by cases H)
 | fu + 1, _, _, H => g_expr_nodes_ac0 (g_expr_nodes_acN fu) H
theorem g_expr_nodes_ac {e0 : GExpr} {r : Int} (H : g_expr_nodes 100000 e0 = some r) : ACp Tryd.prog 13 [(.agg (GExpr.cs e0))] (AV.int r) := g_expr_nodes_acN 100000 H

/-! expr.Check -/
noncomputable def g_expr_Check (e0 : GExpr) : Option (Int) :=
  (g_expr_size 100000 e0 (1 : Int)).bind fun r'1 => (if (!r'1.2) = true then some (1 : Int) else (g_expr_nodes 100000 e0).bind fun r'2 => some r'2)
set_option maxHeartbeats 4000000 in
set_option maxRecDepth 100000 in
theorem g_expr_Check_ac {e0 : GExpr} {r : Int} (H : g_expr_Check e0 = some r) : ACp Tryd.prog 6 [(.agg (GExpr.cs e0))] (AV.int r) := by
 refine ACp_of (AC2_of_body (vs := [.i r]) Tryd.func6 rfl rfl (Nat.le_of_ble_eq_true rfl) rfl ?_) (fun _ => .same _)
 unfold g_expr_Check at H
 refine as2 [(0, .g (GExpr.cs e0))] [] rfl rfl rfl ?_
 refine sg [0, 1] rfl ?_
 refine r_op rfl rfl (MakeD.opD (n_box 1 rfl rfl) rfl rfl rfl rfl) ?_
 refine rp rfl rfl (p_asg rfl rfl) ?_
 refine rz [(1, .q 1 (0))] [(1, .pure (GExpr.cs e0))] rfl rfl rfl ?_
 refine AW2_seq ?_
 refine sg [0, 1, 2, 3, 4, 5, 6] rfl ?_
 refine rp rfl rfl (u_lda rfl rfl Tryd.underlying27 rfl in_27 rfl (Nat.succ_pos _) (Sub.refl _) (GExpr.len e0)) ?_
 refine bindK H fun r'1 h1 H => ?_
 refine rp rfl rfl (p_callp rfl rfl rfl Tryd.func12 rfl rfl (g_expr_size_ac h1) ⟨rfl, rfl, trivial⟩) ?_
 refine rp rfl rfl (p_move rfl rfl) ?_
 refine rp rfl rfl (p_ext rfl rfl rfl rfl) ?_
 refine rp rfl rfl (p_ext rfl rfl rfl rfl) ?_
 refine rp rfl rfl (p_asg rfl rfl) ?_
 refine rp rfl rfl (p_asg rfl rfl) ?_
 refine rz [(1, .q 1 (0)), (4, .b r'1.2)] [(1, .pure (GExpr.cs e0))] rfl rfl rfl ?_
 refine sg [0, 1] rfl ?_
 refine rp rfl rfl (p_move rfl rfl) ?_
 refine rp rfl rfl (p_not rfl rfl) ?_
 refine rz [(1, .q 1 (0)), (11, .b (!r'1.2))] [(1, .pure (GExpr.cs e0))] rfl rfl rfl ?_
 refine AW2_cond rfl (fun h2 => ?_) (fun h2 => ?_)
 ·replace H := ite_then h2 H
  refine sg [0] rfl ?_
  refine rp rfl rfl (p_asg rfl rfl) ?_
  refine rz [(2, .i (1 : Int))] [] rfl rfl rfl ?_
  refine AW2_ret ?_
  have hz := some_elim H
  subst hz
  exact ⟨⟨res_tmp (.same _), trivial⟩, trivial⟩
 ·replace H := ite_else (ne_true h2) H
  refine as2 [(1, .q 1 (0))] [(1, .pure (GExpr.cs e0))] rfl rfl rfl ?_
  refine AW2_skip ?_
  refine sg [0, 1, 2] rfl ?_
  refine rp rfl rfl (u_lda rfl rfl Tryd.underlying27 rfl in_27 rfl (Nat.succ_pos _) (Sub.refl _) (GExpr.len e0)) ?_
  refine bindK H fun r'2 h3 H => ?_
  refine rp rfl rfl (p_callp rfl rfl rfl Tryd.func13 rfl rfl (g_expr_nodes_ac h3) ⟨rfl, trivial⟩) ?_
  refine rp rfl rfl (p_asg rfl rfl) ?_
  refine rz [(2, .i r'2)] [] rfl rfl rfl ?_
  refine AW2_ret ?_
  have hz := some_elim H
  subst hz
  exact ⟨⟨res_tmp (.same _), trivial⟩, trivial⟩

/-! span.literal -/
def g_span_literal_r3 : List (List (Nat × Option Nat)) := [[(1, none)], [(31, some 0)], [(32, some 1)], [(1, none)], [(34, some 3)], [(35, some 4)], [(36, some 5)], [(1, none), (37, some 6)], [(37, some 6), (38, some 7)], [(37, some 6), (39, some 8)], [(37, some 6), (40, some 9)], [(37, some 6), (41, some 10)], [(33, some 2)]]
def g_span_literal_r3c : List (List Nat) := [[], [0], [0, 1], [], [3], [3, 4], [3, 4, 5], [3, 4, 5, 6], [3, 4, 5, 6, 7], [3, 4, 5, 6, 7, 8], [3, 4, 5, 6, 7, 8, 9], [3, 4, 5, 6, 7, 8, 9, 10], [0, 1, 2, 3, 4, 5, 6], [0, 1, 2, 3, 4, 5, 6, 7, 8, 9, 10, 11, 12]]
noncomputable def g_span_literal (e0 : GExpr) : Option (Int × Bool) :=
  ((if e0.Op = (3 : Int) then if 0 < e0.Args.length then (if (lrd e0.Args 0).Op = (1 : Int) then if 0 < e0.Args.length then some (decide (((lrd e0.Args 0).Value).Kind = (2 : Int))) else none else some false) else none else some false)).bind fun g'1 => (if g'1 = true then if 0 < e0.Args.length then some (w64 (0 - (((lrd e0.Args 0).Value).Int_)), true) else none else ((if e0.Op = (1 : Int) then some (decide (e0.Value.Kind = (2 : Int))) else some false)).bind fun g'2 => some (e0.Value.Int_, g'2))
set_option maxHeartbeats 4000000 in
set_option maxRecDepth 100000 in
theorem g_span_literal_ac {e0 : GExpr} {r : Int × Bool} (H : g_span_literal e0 = some r) : ACp Tryd.prog 14 [(.agg (GExpr.cs e0))] (.tup [(AV.int r.1), (AV.bool r.2)]) := by
 refine ACp_of (AC2_of_body (vs := [.i r.1, .b r.2]) Tryd.func14 rfl rfl (Nat.le_of_ble_eq_true rfl) rfl ?_) (fun _ => .same _)
 unfold g_span_literal at H
 refine as2 [(0, .g (GExpr.cs e0))] [] rfl rfl rfl ?_
 refine sg [0, 1, 2] rfl ?_
 refine r_op rfl rfl (MakeD.opD (n_box 1 rfl rfl) rfl rfl rfl rfl) ?_
 refine rp rfl rfl (p_asg rfl rfl) ?_
 refine rp rfl rfl (p_asg rfl rfl) ?_
 refine rz [(1, .q 1 (0))] [(1, .pure (GExpr.cs e0))] rfl rfl rfl ?_
 refine AW2_seq ?_
 refine AW2_seq ?_
 refine bindK H fun g'1 h6 H => ?_
 refine AW2_mid (⟨[(1, .q 1 (0)), (23, .b g'1)], [(1, .pure (GExpr.cs e0))], 43⟩ : TS) ?_ ?_
 ·clear H
  have H := h6
  clear h6
  refine AW2_reg [0, 1, 2, 3, 4, 5, 6, 7, 8, 9, 10, 11, 12, 13, 14, 15, 16, 17, 18, 19] rfl ?_
  refine rp rfl rfl (u_fa rfl rfl Tryd.underlying27 rfl in_3 (Nat.succ_ne_zero _) rfl rfl (ne_of_lt (n := 0) (Nat.lt_of_lt_of_eq (by decide) (Eq.symm (GExpr.len e0))))) ?_
  refine rp rfl rfl (u_ld rfl rfl Tryd.underlying3 rfl rfl ((Sub.refl _).trans (GExpr.sub0 e0))) ?_
  refine rp rfl rfl (p_ieq rfl rfl rfl) ?_
  refine rp rfl rfl (p_move rfl rfl) ?_
  refine (Classical.em (e0.Op = (3 : Int))).elim (fun h2 => ?_) (fun h2 => ?_)
  ·replace H := ite_then h2 H
   refine r_on rfl rfl rfl rfl (decide_eq_true h2) rfl (PureD.opD (u_fa rfl rfl Tryd.underlying27 rfl in_25 (Nat.succ_ne_zero _) rfl rfl (ne_of_lt (n := 0) (Nat.lt_of_lt_of_eq (by decide) (Eq.symm (GExpr.len e0)))))) ?_
   refine r_on rfl rfl rfl rfl (decide_eq_true h2) rfl (PureD.opD (u_ld rfl rfl Tryd.underlying25 rfl rfl ((Sub.refl _).trans (GExpr.sub3 e0)))) ?_
   refine chkK H fun h3 H => ?_
   refine r_on rfl rfl rfl rfl (decide_eq_true h2) rfl (PureD.opD (u_ixl rfl rfl Tryd.underlying25 in_27 rfl rfl rfl h3 (fne (fun x => (GExpr.len x)) (by decide) h3))) ?_
   refine r_on rfl rfl rfl rfl (decide_eq_true h2) rfl (PureD.opD (u_far rfl rfl Tryd.underlying27 rfl in_3 (Nat.succ_ne_zero _) rfl)) ?_
   refine r_on rfl rfl rfl rfl (decide_eq_true h2) rfl (PureD.opD (u_ld rfl rfl Tryd.underlying3 rfl rfl ((Sub.fm default (fun x => (GExpr.len x)) h3).trans (GExpr.sub0 (lrd e0.Args 0))))) ?_
   refine r_on rfl rfl rfl rfl (decide_eq_true h2) rfl (PureD.opD (p_ieq rfl rfl rfl)) ?_
   refine rp rfl rfl (p_pkt rfl rfl (decide_eq_true h2) (.same _)) ?_
   refine rp rfl rfl (p_move rfl rfl) ?_
   refine (Classical.em ((lrd e0.Args 0).Op = (1 : Int))).elim (fun h4 => ?_) (fun h4 => ?_)
   ·replace H := ite_then h4 H
    refine r_on rfl rfl rfl rfl (decide_eq_true h4) rfl (PureD.opD (u_fa rfl rfl Tryd.underlying27 rfl in_25 (Nat.succ_ne_zero _) rfl rfl (ne_of_lt (n := 0) (Nat.lt_of_lt_of_eq (by decide) (Eq.symm (GExpr.len e0)))))) ?_
    refine r_on rfl rfl rfl rfl (decide_eq_true h4) rfl (PureD.opD (u_ld rfl rfl Tryd.underlying25 rfl rfl ((Sub.refl _).trans (GExpr.sub3 e0)))) ?_
    refine chkK H fun h5 H => ?_
    refine r_on rfl rfl rfl rfl (decide_eq_true h4) rfl (PureD.opD (u_ixl rfl rfl Tryd.underlying25 in_27 rfl rfl rfl h5 (fne (fun x => (GExpr.len x)) (by decide) h5))) ?_
    refine r_on rfl rfl rfl rfl (decide_eq_true h4) rfl (PureD.opD (u_far rfl rfl Tryd.underlying27 rfl in_24 (Nat.succ_ne_zero _) rfl)) ?_
    refine r_on rfl rfl rfl rfl (decide_eq_true h4) rfl (PureD.opD (u_far rfl rfl Tryd.underlying24 rfl in_3 (Nat.succ_ne_zero _) rfl)) ?_
    refine r_on rfl rfl rfl rfl (decide_eq_true h4) rfl (PureD.opD (u_ld rfl rfl Tryd.underlying3 rfl rfl (((Sub.fm default (fun x => (GExpr.len x)) h5).trans (GExpr.sub1 (lrd e0.Args 0))).trans (GValue.sub0 ((lrd e0.Args 0).Value))))) ?_
    refine r_on rfl rfl rfl rfl (decide_eq_true h4) rfl (PureD.opD (p_ieq rfl rfl rfl)) ?_
    refine rp rfl rfl (p_pkt rfl rfl (decide_eq_true h4) (.same _)) ?_
    refine rs [(1, .q 1 (0)), (23, .b (decide (((lrd e0.Args 0).Value).Kind = (2 : Int))))] [(1, .pure (GExpr.cs e0))] rfl rfl rfl ?_
    have hz := some_elim H
    subst hz
    exact RunW_nil rfl
   ·replace H := ite_else h4 H
    refine r_off rfl rfl rfl rfl (decide_eq_false h4) rfl rfl ?_
    refine r_off rfl rfl rfl rfl (decide_eq_false h4) rfl rfl ?_
    refine r_off rfl rfl rfl rfl (decide_eq_false h4) rfl rfl ?_
    refine r_off rfl rfl rfl rfl (decide_eq_false h4) rfl rfl ?_
    refine r_off rfl rfl rfl rfl (decide_eq_false h4) rfl rfl ?_
    refine r_off rfl rfl rfl rfl (decide_eq_false h4) rfl rfl ?_
    refine r_off rfl rfl rfl rfl (decide_eq_false h4) rfl rfl ?_
    refine rp rfl rfl (p_pkf rfl rfl (decide_eq_false h4) (.same _)) ?_
    refine rs [(1, .q 1 (0)), (23, .b false)] [(1, .pure (GExpr.cs e0))] rfl rfl rfl ?_
    have hz := some_elim H
    subst hz
    exact RunW_nil rfl
  ·replace H := ite_else h2 H
   refine r_off rfl rfl rfl rfl (decide_eq_false h2) rfl rfl ?_
   refine r_off rfl rfl rfl rfl (decide_eq_false h2) rfl rfl ?_
   refine r_off rfl rfl rfl rfl (decide_eq_false h2) rfl rfl ?_
   refine r_off rfl rfl rfl rfl (decide_eq_false h2) rfl rfl ?_
   refine r_off rfl rfl rfl rfl (decide_eq_false h2) rfl rfl ?_
   refine r_off rfl rfl rfl rfl (decide_eq_false h2) rfl rfl ?_
   refine rp rfl rfl (p_pkf rfl rfl (decide_eq_false h2) (.same _)) ?_
   refine rp rfl rfl (p_move rfl rfl) ?_
   refine r_off rfl rfl rfl rfl (bfalse (by decide)) rfl rfl ?_
   refine r_off rfl rfl rfl rfl (bfalse (by decide)) rfl rfl ?_
   refine r_off rfl rfl rfl rfl (bfalse (by decide)) rfl rfl ?_
   refine r_off rfl rfl rfl rfl (bfalse (by decide)) rfl rfl ?_
   refine r_off rfl rfl rfl rfl (bfalse (by decide)) rfl rfl ?_
   refine r_off rfl rfl rfl rfl (bfalse (by decide)) rfl rfl ?_
   refine r_off rfl rfl rfl rfl (bfalse (by decide)) rfl rfl ?_
   refine rp rfl rfl (p_pkf rfl rfl (bfalse (by decide)) (.same _)) ?_
   refine rs [(1, .q 1 (0)), (23, .b false)] [(1, .pure (GExpr.cs e0))] rfl rfl rfl ?_
   have hz := some_elim H
   subst hz
   exact RunW_nil rfl
 ·refine AW2_cond rfl (fun h7 => ?_) (fun h7 => ?_)
  ·replace H := ite_then h7 H
   refine sg [0, 1, 2, 3, 4, 5, 6, 7, 8] rfl ?_
   refine rp rfl rfl (u_fa rfl rfl Tryd.underlying27 rfl in_25 (Nat.succ_ne_zero _) rfl rfl (ne_of_lt (n := 0) (Nat.lt_of_lt_of_eq (by decide) (Eq.symm (GExpr.len e0))))) ?_
   refine rp rfl rfl (u_ld rfl rfl Tryd.underlying25 rfl rfl ((Sub.refl _).trans (GExpr.sub3 e0))) ?_
   refine chkK H fun h8 H => ?_
   refine rp rfl rfl (u_ixl rfl rfl Tryd.underlying25 in_27 rfl rfl rfl h8 (fne (fun x => (GExpr.len x)) (by decide) h8)) ?_
   refine rp rfl rfl (u_far rfl rfl Tryd.underlying27 rfl in_24 (Nat.succ_ne_zero _) rfl) ?_
   refine rp rfl rfl (u_far rfl rfl Tryd.underlying24 rfl in_3 (Nat.succ_ne_zero _) rfl) ?_
   refine rp rfl rfl (u_ld rfl rfl Tryd.underlying3 rfl rfl (((Sub.fm default (fun x => (GExpr.len x)) h8).trans (GExpr.sub1 (lrd e0.Args 0))).trans (GValue.sub1 ((lrd e0.Args 0).Value)))) ?_
   refine rp rfl rfl (p_neg rfl rfl) ?_
   refine rp rfl rfl (p_asg rfl rfl) ?_
   refine rp rfl rfl (p_asg rfl rfl) ?_
   refine rz [(2, .i (w64 (0 - (((lrd e0.Args 0).Value).Int_)))), (3, .b true)] [] rfl rfl rfl ?_
   refine AW2_ret ?_
   have hz := some_elim H
   subst hz
   exact ⟨⟨res_tmp (.same _), res_tmp (.same _), trivial⟩, trivial⟩
  ·replace H := ite_else (ne_true h7) H
   refine as2 [(1, .q 1 (0))] [(1, .pure (GExpr.cs e0))] rfl rfl rfl ?_
   refine AW2_skip ?_
   refine AW2_seq ?_
   refine bindK H fun g'2 h10 H => ?_
   refine AW2_mid (⟨[(2, .i e0.Value.Int_), (3, .b g'2)], [], 43⟩ : TS) ?_ ?_
   ·clear H
    have H := h10
    clear h10
    refine (Classical.em (e0.Op = (1 : Int))).elim (fun h9 => ?_) (fun h9 => ?_)
    ·replace H := ite_then h9 H
     have hz := some_elim H
     subst hz
     refine AW2_ghoQ ?_
     refine AW2_draw 13 [13] (fun k => ([.q 1 (0 + 1), .q 1 (0 + 1 + 1), .i e0.Value.Int_, .q 1 (0 + 0), .i e0.Op, .b (decide (e0.Op = (1 : Int))), .b (decide (e0.Op = (1 : Int))), .q 1 (0 + 1), .q 1 (0 + 1 + 0), .i e0.Value.Kind, .b (decide (e0.Value.Kind = (2 : Int))), .b (decide (e0.Value.Kind = (2 : Int))), .i e0.Value.Int_] : List TV).getD k TV.any) (fun k => g_span_literal_r3.getD k []) [(2, some 12), (42, some 11)] [] (fun k => g_span_literal_r3c.getD k []) mixed (by kernel_rfl) rfl rfl (a_op (g_x rfl (x_p rfl (u_fa rfl rfl Tryd.underlying27 rfl in_24 (Nat.succ_ne_zero _) rfl rfl (ne_of_lt (n := 0) (Nat.lt_of_lt_of_eq (by decide) (Eq.symm (GExpr.len e0))))) rfl)) (a_op (g_x rfl (x_p rfl (u_fa rfl rfl Tryd.underlying24 rfl in_3 (Nat.succ_ne_zero _) rfl rfl (ne_of_lt (n := 0) (Nat.lt_of_lt_of_eq (by decide) (Eq.symm (GExpr.len e0))))) rfl)) (a_op (g_x rfl (x_p rfl (u_ld rfl rfl Tryd.underlying3 rfl rfl (((Sub.refl _).trans (GExpr.sub1 e0)).trans (GValue.sub1 e0.Value))) rfl)) (a_op (g_x rfl (x_p rfl (u_fa rfl rfl Tryd.underlying27 rfl in_3 (Nat.succ_ne_zero _) rfl rfl (ne_of_lt (n := 0) (Nat.lt_of_lt_of_eq (by decide) (Eq.symm (GExpr.len e0))))) rfl)) (a_op (g_x rfl (x_p rfl (u_ld rfl rfl Tryd.underlying3 rfl rfl ((Sub.refl _).trans (GExpr.sub0 e0))) rfl)) (a_op (g_x rfl (x_p rfl (p_ieq rfl rfl rfl) rfl)) (a_op (g_x rfl (x_p rfl (p_move rfl rfl) rfl)) (a_op (g_on rfl rfl rfl (decide_eq_true h9) rfl (x_p rfl (u_fa rfl rfl Tryd.underlying27 rfl in_24 (Nat.succ_ne_zero _) rfl rfl (ne_of_lt (n := 0) (Nat.lt_of_lt_of_eq (by decide) (Eq.symm (GExpr.len e0))))) rfl)) (a_op (g_on rfl rfl rfl (decide_eq_true h9) rfl (x_p rfl (u_fa rfl rfl Tryd.underlying24 rfl in_3 (Nat.succ_ne_zero _) rfl rfl (ne_of_lt (n := 0) (Nat.lt_of_lt_of_eq (by decide) (Eq.symm (GExpr.len e0))))) rfl)) (a_op (g_on rfl rfl rfl (decide_eq_true h9) rfl (x_p rfl (u_ld rfl rfl Tryd.underlying3 rfl rfl (((Sub.refl _).trans (GExpr.sub1 e0)).trans (GValue.sub0 e0.Value))) rfl)) (a_op (g_on rfl rfl rfl (decide_eq_true h9) rfl (x_p rfl (p_ieq rfl rfl rfl) rfl)) (a_op (g_x rfl (x_p rfl (p_pkt rfl rfl (decide_eq_true h9) (.same _)) rfl)) (a_op (g_x rfl (x_p rfl (p_asg rfl rfl) rfl)) (a_nil)))))))))))))) ?_
     refine t_op rfl rfl (PureD.opD (p_asg rfl rfl)) ?_
     refine t_gho (Gho_st (L := [(2, .i e0.Value.Int_), (3, .b (decide (e0.Value.Kind = (2 : Int))))]) (H := []) (N := 43) rfl ⟨TLes.same _, TLes.same _, trivial⟩ trivial) ?_
     exact rfl
    ·replace H := ite_else h9 H
     have hz := some_elim H
     subst hz
     refine AW2_ghoQ ?_
     refine AW2_draw 13 [13] (fun k => ([.q 1 (0 + 1), .q 1 (0 + 1 + 1), .i e0.Value.Int_, .q 1 (0 + 0), .i e0.Op, .b (decide (e0.Op = (1 : Int))), .b (decide (e0.Op = (1 : Int))), .p (.tup []), .p (.tup []), .p (.tup []), .p (.tup []), .b false, .i e0.Value.Int_] : List TV).getD k TV.any) (fun k => g_span_literal_r3.getD k []) [(2, some 12), (42, some 11)] [] (fun k => g_span_literal_r3c.getD k []) mixed (by kernel_rfl) rfl rfl (a_op (g_x rfl (x_p rfl (u_fa rfl rfl Tryd.underlying27 rfl in_24 (Nat.succ_ne_zero _) rfl rfl (ne_of_lt (n := 0) (Nat.lt_of_lt_of_eq (by decide) (Eq.symm (GExpr.len e0))))) rfl)) (a_op (g_x rfl (x_p rfl (u_fa rfl rfl Tryd.underlying24 rfl in_3 (Nat.succ_ne_zero _) rfl rfl (ne_of_lt (n := 0) (Nat.lt_of_lt_of_eq (by decide) (Eq.symm (GExpr.len e0))))) rfl)) (a_op (g_x rfl (x_p rfl (u_ld rfl rfl Tryd.underlying3 rfl rfl (((Sub.refl _).trans (GExpr.sub1 e0)).trans (GValue.sub1 e0.Value))) rfl)) (a_op (g_x rfl (x_p rfl (u_fa rfl rfl Tryd.underlying27 rfl in_3 (Nat.succ_ne_zero _) rfl rfl (ne_of_lt (n := 0) (Nat.lt_of_lt_of_eq (by decide) (Eq.symm (GExpr.len e0))))) rfl)) (a_op (g_x rfl (x_p rfl (u_ld rfl rfl Tryd.underlying3 rfl rfl ((Sub.refl _).trans (GExpr.sub0 e0))) rfl)) (a_op (g_x rfl (x_p rfl (p_ieq rfl rfl rfl) rfl)) (a_op (g_x rfl (x_p rfl (p_move rfl rfl) rfl)) (a_op (g_off rfl rfl rfl rfl rfl (decide_eq_false h9) rfl rfl) (a_op (g_off rfl rfl rfl rfl rfl (decide_eq_false h9) rfl rfl) (a_op (g_off rfl rfl rfl rfl rfl (decide_eq_false h9) rfl rfl) (a_op (g_off rfl rfl rfl rfl rfl (decide_eq_false h9) rfl rfl) (a_op (g_x rfl (x_p rfl (p_pkf rfl rfl (decide_eq_false h9) (.same _)) rfl)) (a_op (g_x rfl (x_p rfl (p_asg rfl rfl) rfl)) (a_nil)))))))))))))) ?_
     refine t_op rfl rfl (PureD.opD (p_asg rfl rfl)) ?_
     refine t_gho (Gho_st (L := [(2, .i e0.Value.Int_), (3, .b false)]) (H := []) (N := 43) rfl ⟨TLes.same _, TLes.same _, trivial⟩ trivial) ?_
     exact rfl
   ·refine AW2_ret ?_
    have hz := some_elim H
    subst hz
    exact ⟨⟨res_tmp (.same _), res_tmp (.same _), trivial⟩, trivial⟩

/-! span.none -/
noncomputable def g_span_none : Option (GRange) :=
  some ({ { GRange.zero with Lo := (1 : Int) } with Hi := (0 : Int) })
set_option maxHeartbeats 4000000 in
set_option maxRecDepth 100000 in
theorem g_span_none_ac {r : GRange} (H : g_span_none = some r) : ACp Tryd.prog 8 [] (.agg (GRange.cs r)) := by
 refine ACp_of (AC2_of_body (vs := [.g (GRange.cs r)]) Tryd.func8 rfl rfl (Nat.le_of_ble_eq_true rfl) rfl ?_) (fun _ => .same _)
 unfold g_span_none at H
 refine as2 [] [] rfl rfl rfl ?_
 refine sg [0] rfl ?_
 refine r_op rfl rfl (MakeD.opD (u_alloc 0 rfl in_29 one_29 zc_29) rfl rfl rfl rfl) ?_
 refine rz [(0, .q 0 (0))] [(0, .pure (GRange.cs GRange.zero))] rfl rfl rfl ?_
 refine sg [0, 1] rfl ?_
 refine rp rfl rfl (u_bld rfl in_29 one_29 zc_29 pl_29 rfl (af_cons rfl rfl (GRange.upd0 GRange.zero (1 : Int)) (af_cons rfl rfl (GRange.upd1 ((GRange.w0 GRange.zero (1 : Int))) (0 : Int)) rfl))) ?_
 refine r_op rfl rfl (u_st rfl rfl rfl rfl rfl in_29 (GRange.len ((GRange.w1 (GRange.w0 GRange.zero (1 : Int)) (0 : Int)))) (ne_of_lt (n := 0) (Nat.lt_of_lt_of_eq (by decide) (Eq.symm (GRange.len GRange.zero)))) (Upd.refl ((GRange.len ((GRange.w1 (GRange.w0 GRange.zero (1 : Int)) (0 : Int)))).trans (GRange.len GRange.zero).symm))) ?_
 refine rz [(0, .q 0 (0))] [(0, .pure (GRange.cs ((GRange.w1 (GRange.w0 GRange.zero (1 : Int)) (0 : Int)))))] rfl rfl rfl ?_
 refine AW2_ret ?_
 have hz := some_elim H
 subst hz
 exact ⟨⟨res_cella Tryd.underlying29 rfl in_29.sz rfl (Sub.le (Sub.refl _) (GRange.len ((GRange.w1 (GRange.w0 GRange.zero (1 : Int)) (0 : Int))))) (by decide) (Sub.take (Sub.refl _) (GRange.len ((GRange.w1 (GRange.w0 GRange.zero (1 : Int)) (0 : Int))))), trivial⟩, trivial⟩

/-! span.bounds -/
noncomputable def g_span_bounds (op0 : Int) (n1 : Int) : Option (GRange) :=
  letO ({ { GRange.zero with Lo := (-9223372036854775808 : Int) } with Hi := (9223372036854775807 : Int) }) fun r5'1 => (show Option (GRange ⊕ GRange) from (if op0 = (9 : Int) then some (.inr ({ { GRange.zero with Lo := n1 } with Hi := n1 })) else (if op0 = (11 : Int) then (if n1 = (-9223372036854775808 : Int) then (g_span_none).bind fun r'3 => some (.inl r'3) else some (.inr ({ r5'1 with Hi := w64 (n1 - (1 : Int)) }))) else (if op0 = (12 : Int) then some (.inr ({ r5'1 with Hi := n1 })) else (if op0 = (13 : Int) then (if n1 = (9223372036854775807 : Int) then (g_span_none).bind fun r'4 => some (.inl r'4) else some (.inr ({ r5'1 with Lo := w64 (n1 + (1 : Int)) }))) else (if op0 = (14 : Int) then some (.inr ({ r5'1 with Lo := n1 })) else some (.inr r5'1))))))).bind fun o'6 => match o'6 with | .inl y'5 => some y'5 | .inr j'2 => some j'2
set_option maxHeartbeats 4000000 in
set_option maxRecDepth 100000 in
theorem g_span_bounds_ac {op0 : Int} {n1 : Int} {r : GRange} (H : g_span_bounds op0 n1 = some r) : ACp Tryd.prog 15 [(AV.int op0), (AV.int n1)] (.agg (GRange.cs r)) := by
 refine ACp_of (AC2_of_body (vs := [.g (GRange.cs r)]) Tryd.func15 rfl rfl (Nat.le_of_ble_eq_true rfl) rfl ?_) (fun _ => .same _)
 unfold g_span_bounds at H
 refine as2 [(0, .i op0), (1, .i n1)] [] rfl rfl rfl ?_
 refine sg [0] rfl ?_
 refine r_op rfl rfl (MakeD.opD (u_alloc 4 rfl in_29 one_29 zc_29) rfl rfl rfl rfl) ?_
 refine rz [(0, .i op0), (1, .i n1), (4, .q 4 (0))] [(4, .pure (GRange.cs GRange.zero))] rfl rfl rfl ?_
 refine sg [0, 1, 2] rfl ?_
 refine rp rfl rfl (u_bld rfl in_29 one_29 zc_29 pl_29 rfl (af_cons rfl rfl (GRange.upd0 GRange.zero (-9223372036854775808 : Int)) (af_cons rfl rfl (GRange.upd1 ((GRange.w0 GRange.zero (-9223372036854775808 : Int))) (9223372036854775807 : Int)) rfl))) ?_
 refine r_op rfl rfl (MakeD.opD (u_alloc 5 rfl in_29 one_29 zc_29) rfl rfl rfl rfl) ?_
 refine r_op rfl rfl (u_st rfl rfl rfl rfl rfl in_29 (GRange.len ((GRange.w1 (GRange.w0 GRange.zero (-9223372036854775808 : Int)) (9223372036854775807 : Int)))) (ne_of_lt (n := 0) (Nat.lt_of_lt_of_eq (by decide) (Eq.symm (GRange.len GRange.zero)))) (Upd.refl ((GRange.len ((GRange.w1 (GRange.w0 GRange.zero (-9223372036854775808 : Int)) (9223372036854775807 : Int)))).trans (GRange.len GRange.zero).symm))) ?_
 refine rz [(0, .i op0), (1, .i n1), (4, .q 4 (0)), (5, .q 5 (0))] [(4, .pure (GRange.cs GRange.zero)), (5, .pure (GRange.cs ((GRange.w1 (GRange.w0 GRange.zero (-9223372036854775808 : Int)) (9223372036854775807 : Int)))))] rfl rfl rfl ?_
 refine gen1 (fun r5'1 => (⟨[(0, .i op0), (1, .i n1), (4, .q 4 (0)), (5, .q 5 (0))], [(4, .pure (GRange.cs GRange.zero)), (5, .pure (GRange.cs r5'1))], 38⟩ : TS)) H ?_
 intro r5'1 H
 refine AW2_seq ?_
 refine bindK H fun o'6 h1 H => ?_
 refine AW2_join (fun j'2 : GRange => (⟨[(4, .q 4 (0)), (5, .q 5 (0))], [(4, .pure (GRange.cs GRange.zero)), (5, .pure (GRange.cs j'2))], 38⟩ : TS)) (fun r e s' => e = Go.Exit.ret ∧ ResAll Tryd.prog s' [ResultVar.cell 4 29] [.g (GRange.cs r)] ∧ HFits s' []) (x := o'6) ?_ (fun j'2 hy => ?_) (fun y'5 e s' hy hs => ?_)
 ·clear H
  have H := h1
  clear h1
  refine sg [0] rfl ?_
  refine rp rfl rfl (p_move rfl rfl) ?_
  refine rz [(1, .i n1), (4, .q 4 (0)), (5, .q 5 (0)), (7, .i op0)] [(4, .pure (GRange.cs GRange.zero)), (5, .pure (GRange.cs r5'1))] rfl rfl rfl ?_
  refine AW2_block ?_
  refine sg [0, 1] rfl ?_
  refine rp rfl rfl (p_ieq rfl rfl rfl) ?_
  refine rp rfl rfl (p_asg rfl rfl) ?_
  refine rz [(1, .i n1), (4, .q 4 (0)), (5, .q 5 (0)), (7, .i op0), (8, .b (decide (op0 = (9 : Int))))] [(4, .pure (GRange.cs GRange.zero)), (5, .pure (GRange.cs r5'1))] rfl rfl rfl ?_
  refine AW2_if (p := op0 = (9 : Int)) rfl (fun h2 => ?_) (fun h2 => ?_)
  ·replace H := ite_then h2 H
   refine AW2_reg [0, 1, 2, 3] rfl ?_
   refine rp rfl rfl (p_move rfl rfl) ?_
   refine rp rfl rfl (p_move rfl rfl) ?_
   refine rp rfl rfl (u_bld rfl in_29 one_29 zc_29 pl_29 rfl (af_cons rfl rfl (GRange.upd0 GRange.zero n1) (af_cons rfl rfl (GRange.upd1 ((GRange.w0 GRange.zero n1)) n1) rfl))) ?_
   refine r_op rfl rfl (u_st rfl rfl rfl rfl rfl in_29 (GRange.len ((GRange.w1 (GRange.w0 GRange.zero n1) n1))) (ne_of_lt (n := 0) (Nat.lt_of_lt_of_eq (by decide) (Eq.symm (GRange.len r5'1)))) (Upd.refl ((GRange.len ((GRange.w1 (GRange.w0 GRange.zero n1) n1))).trans (GRange.len r5'1).symm))) ?_
   refine rz [(4, .q 4 (0)), (5, .q 5 (0))] [(4, .pure (GRange.cs GRange.zero)), (5, .pure (GRange.cs ((GRange.w1 (GRange.w0 GRange.zero n1) n1))))] rfl rfl rfl ?_
   have hz := some_elim H
   subst hz
   exact ⟨rfl, rfl⟩
  ·replace H := ite_else h2 H
   refine sg [0, 1] rfl ?_
   refine rp rfl rfl (p_ieq rfl rfl rfl) ?_
   refine rp rfl rfl (p_asg rfl rfl) ?_
   refine rz [(1, .i n1), (4, .q 4 (0)), (5, .q 5 (0)), (7, .i op0), (13, .b (decide (op0 = (11 : Int))))] [(4, .pure (GRange.cs GRange.zero)), (5, .pure (GRange.cs r5'1))] rfl rfl rfl ?_
   refine AW2_if (p := op0 = (11 : Int)) rfl (fun h3 => ?_) (fun h3 => ?_)
   ·replace H := ite_then h3 H
    refine AW2_seq ?_
    refine sg [0, 1] rfl ?_
    refine rp rfl rfl (p_move rfl rfl) ?_
    refine rp rfl rfl (p_ieq rfl rfl rfl) ?_
    refine rz [(1, .i n1), (4, .q 4 (0)), (5, .q 5 (0)), (16, .b (decide (n1 = (-9223372036854775808 : Int))))] [(4, .pure (GRange.cs GRange.zero)), (5, .pure (GRange.cs r5'1))] rfl rfl rfl ?_
    refine AW2_if (p := n1 = (-9223372036854775808 : Int)) rfl (fun h4 => ?_) (fun h4 => ?_)
    ·replace H := ite_then h4 H
     refine sg [0, 1] rfl ?_
     refine bindK H fun r'3 h5 H => ?_
     refine rp rfl rfl (p_callp rfl rfl rfl Tryd.func8 rfl rfl (g_span_none_ac h5) trivial) ?_
     refine r_op rfl rfl (u_st rfl rfl rfl rfl rfl in_29 (GRange.len r'3) (ne_of_lt (n := 0) (Nat.lt_of_lt_of_eq (by decide) (Eq.symm (GRange.len GRange.zero)))) (Upd.refl ((GRange.len r'3).trans (GRange.len GRange.zero).symm))) ?_
     refine rz [(4, .q 4 (0))] [(4, .pure (GRange.cs r'3))] rfl rfl rfl ?_
     refine AW2_ret ?_
     have hz := some_elim H
     subst hz
     exact ⟨rfl, ⟨res_cella Tryd.underlying29 rfl in_29.sz rfl (Sub.le (Sub.refl _) (GRange.len r'3)) (by decide) (Sub.take (Sub.refl _) (GRange.len r'3)), trivial⟩, trivial⟩
    ·replace H := ite_else h4 H
     refine as2 [(1, .i n1), (4, .q 4 (0)), (5, .q 5 (0))] [(4, .pure (GRange.cs GRange.zero)), (5, .pure (GRange.cs r5'1))] rfl rfl rfl ?_
     refine AW2_skip ?_
     refine AW2_reg [0, 1, 2, 3] rfl ?_
     refine rp rfl rfl (p_move rfl rfl) ?_
     refine rp rfl rfl (p_bin rfl rfl rfl rfl) ?_
     refine rp rfl rfl (u_fa rfl rfl Tryd.underlying29 rfl in_3 (Nat.succ_ne_zero _) rfl rfl (ne_of_lt (n := 0) (Nat.lt_of_lt_of_eq (by decide) (Eq.symm (GRange.len r5'1))))) ?_
     refine r_op rfl rfl (u_st rfl rfl rfl rfl rfl in_3 rfl (ne_of_lt (n := 0) (Nat.lt_of_lt_of_eq (by decide) (Eq.symm (GRange.len r5'1)))) (Upd.trans (Sub.refl _) (GRange.upd1 r5'1 (w64 (n1 - (1 : Int)))) (Upd.refl ((GRange.len ((GRange.w1 r5'1 (w64 (n1 - (1 : Int)))))).trans (GRange.len r5'1).symm)))) ?_
     refine rz [(4, .q 4 (0)), (5, .q 5 (0))] [(4, .pure (GRange.cs GRange.zero)), (5, .pure (GRange.cs ((GRange.w1 r5'1 (w64 (n1 - (1 : Int)))))))] rfl rfl rfl ?_
     have hz := some_elim H
     subst hz
     exact ⟨rfl, rfl⟩
   ·replace H := ite_else h3 H
    refine sg [0, 1] rfl ?_
    refine rp rfl rfl (p_ieq rfl rfl rfl) ?_
    refine rp rfl rfl (p_asg rfl rfl) ?_
    refine rz [(1, .i n1), (4, .q 4 (0)), (5, .q 5 (0)), (7, .i op0), (21, .b (decide (op0 = (12 : Int))))] [(4, .pure (GRange.cs GRange.zero)), (5, .pure (GRange.cs r5'1))] rfl rfl rfl ?_
    refine AW2_if (p := op0 = (12 : Int)) rfl (fun h6 => ?_) (fun h6 => ?_)
    ·replace H := ite_then h6 H
     refine AW2_reg [0, 1, 2] rfl ?_
     refine rp rfl rfl (p_move rfl rfl) ?_
     refine rp rfl rfl (u_fa rfl rfl Tryd.underlying29 rfl in_3 (Nat.succ_ne_zero _) rfl rfl (ne_of_lt (n := 0) (Nat.lt_of_lt_of_eq (by decide) (Eq.symm (GRange.len r5'1))))) ?_
     refine r_op rfl rfl (u_st rfl rfl rfl rfl rfl in_3 rfl (ne_of_lt (n := 0) (Nat.lt_of_lt_of_eq (by decide) (Eq.symm (GRange.len r5'1)))) (Upd.trans (Sub.refl _) (GRange.upd1 r5'1 n1) (Upd.refl ((GRange.len ((GRange.w1 r5'1 n1))).trans (GRange.len r5'1).symm)))) ?_
     refine rz [(4, .q 4 (0)), (5, .q 5 (0))] [(4, .pure (GRange.cs GRange.zero)), (5, .pure (GRange.cs ((GRange.w1 r5'1 n1))))] rfl rfl rfl ?_
     have hz := some_elim H
     subst hz
     exact ⟨rfl, rfl⟩
    ·replace H := ite_else h6 H
     refine sg [0, 1] rfl ?_
     refine rp rfl rfl (p_ieq rfl rfl rfl) ?_
     refine rp rfl rfl (p_asg rfl rfl) ?_
     refine rz [(1, .i n1), (4, .q 4 (0)), (5, .q 5 (0)), (7, .i op0), (25, .b (decide (op0 = (13 : Int))))] [(4, .pure (GRange.cs GRange.zero)), (5, .pure (GRange.cs r5'1))] rfl rfl rfl ?_
     refine AW2_if (p := op0 = (13 : Int)) rfl (fun h7 => ?_) (fun h7 => ?_)
     ·replace H := ite_then h7 H
      refine AW2_seq ?_
      refine sg [0, 1] rfl ?_
      refine rp rfl rfl (p_move rfl rfl) ?_
      refine rp rfl rfl (p_ieq rfl rfl rfl) ?_
      refine rz [(1, .i n1), (4, .q 4 (0)), (5, .q 5 (0)), (28, .b (decide (n1 = (9223372036854775807 : Int))))] [(4, .pure (GRange.cs GRange.zero)), (5, .pure (GRange.cs r5'1))] rfl rfl rfl ?_
      refine AW2_if (p := n1 = (9223372036854775807 : Int)) rfl (fun h8 => ?_) (fun h8 => ?_)
      ·replace H := ite_then h8 H
       refine sg [0, 1] rfl ?_
       refine bindK H fun r'4 h9 H => ?_
       refine rp rfl rfl (p_callp rfl rfl rfl Tryd.func8 rfl rfl (g_span_none_ac h9) trivial) ?_
       refine r_op rfl rfl (u_st rfl rfl rfl rfl rfl in_29 (GRange.len r'4) (ne_of_lt (n := 0) (Nat.lt_of_lt_of_eq (by decide) (Eq.symm (GRange.len GRange.zero)))) (Upd.refl ((GRange.len r'4).trans (GRange.len GRange.zero).symm))) ?_
       refine rz [(4, .q 4 (0))] [(4, .pure (GRange.cs r'4))] rfl rfl rfl ?_
       refine AW2_ret ?_
       have hz := some_elim H
       subst hz
       exact ⟨rfl, ⟨res_cella Tryd.underlying29 rfl in_29.sz rfl (Sub.le (Sub.refl _) (GRange.len r'4)) (by decide) (Sub.take (Sub.refl _) (GRange.len r'4)), trivial⟩, trivial⟩
      ·replace H := ite_else h8 H
       refine as2 [(1, .i n1), (4, .q 4 (0)), (5, .q 5 (0))] [(4, .pure (GRange.cs GRange.zero)), (5, .pure (GRange.cs r5'1))] rfl rfl rfl ?_
       refine AW2_skip ?_
       refine AW2_reg [0, 1, 2, 3] rfl ?_
       refine rp rfl rfl (p_move rfl rfl) ?_
       refine rp rfl rfl (p_bin rfl rfl rfl rfl) ?_
       refine rp rfl rfl (u_fa rfl rfl Tryd.underlying29 rfl in_3 (Nat.succ_ne_zero _) rfl rfl (ne_of_lt (n := 0) (Nat.lt_of_lt_of_eq (by decide) (Eq.symm (GRange.len r5'1))))) ?_
       refine r_op rfl rfl (u_st rfl rfl rfl rfl rfl in_3 rfl (ne_of_lt (n := 0) (Nat.lt_of_lt_of_eq (by decide) (Eq.symm (GRange.len r5'1)))) (Upd.trans (Sub.refl _) (GRange.upd0 r5'1 (w64 (n1 + (1 : Int)))) (Upd.refl ((GRange.len ((GRange.w0 r5'1 (w64 (n1 + (1 : Int)))))).trans (GRange.len r5'1).symm)))) ?_
       refine rz [(4, .q 4 (0)), (5, .q 5 (0))] [(4, .pure (GRange.cs GRange.zero)), (5, .pure (GRange.cs ((GRange.w0 r5'1 (w64 (n1 + (1 : Int)))))))] rfl rfl rfl ?_
       have hz := some_elim H
       subst hz
       exact ⟨rfl, rfl⟩
     ·replace H := ite_else h7 H
      refine sg [0, 1] rfl ?_
      refine rp rfl rfl (p_ieq rfl rfl rfl) ?_
      refine rp rfl rfl (p_asg rfl rfl) ?_
      refine rz [(1, .i n1), (4, .q 4 (0)), (5, .q 5 (0)), (33, .b (decide (op0 = (14 : Int))))] [(4, .pure (GRange.cs GRange.zero)), (5, .pure (GRange.cs r5'1))] rfl rfl rfl ?_
      refine AW2_if (p := op0 = (14 : Int)) rfl (fun h10 => ?_) (fun h10 => ?_)
      ·replace H := ite_then h10 H
       refine AW2_reg [0, 1, 2] rfl ?_
       refine rp rfl rfl (p_move rfl rfl) ?_
       refine rp rfl rfl (u_fa rfl rfl Tryd.underlying29 rfl in_3 (Nat.succ_ne_zero _) rfl rfl (ne_of_lt (n := 0) (Nat.lt_of_lt_of_eq (by decide) (Eq.symm (GRange.len r5'1))))) ?_
       refine r_op rfl rfl (u_st rfl rfl rfl rfl rfl in_3 rfl (ne_of_lt (n := 0) (Nat.lt_of_lt_of_eq (by decide) (Eq.symm (GRange.len r5'1)))) (Upd.trans (Sub.refl _) (GRange.upd0 r5'1 n1) (Upd.refl ((GRange.len ((GRange.w0 r5'1 n1))).trans (GRange.len r5'1).symm)))) ?_
       refine rz [(4, .q 4 (0)), (5, .q 5 (0))] [(4, .pure (GRange.cs GRange.zero)), (5, .pure (GRange.cs ((GRange.w0 r5'1 n1))))] rfl rfl rfl ?_
       have hz := some_elim H
       subst hz
       exact ⟨rfl, rfl⟩
      ·replace H := ite_else h10 H
       refine as2 [(4, .q 4 (0)), (5, .q 5 (0))] [(4, .pure (GRange.cs GRange.zero)), (5, .pure (GRange.cs r5'1))] rfl rfl rfl ?_
       refine AW2_skip ?_
       have hz := some_elim H
       subst hz
       exact ⟨rfl, rfl⟩
 ·subst hy
  refine sg [0, 1] rfl ?_
  refine rp rfl rfl (u_lda rfl rfl Tryd.underlying29 rfl in_29 rfl (Nat.succ_pos _) (Sub.refl _) (GRange.len j'2)) ?_
  refine r_op rfl rfl (u_st rfl rfl rfl rfl rfl in_29 (GRange.len j'2) (ne_of_lt (n := 0) (Nat.lt_of_lt_of_eq (by decide) (Eq.symm (GRange.len GRange.zero)))) (Upd.refl ((GRange.len j'2).trans (GRange.len GRange.zero).symm))) ?_
  refine rz [(4, .q 4 (0))] [(4, .pure (GRange.cs j'2))] rfl rfl rfl ?_
  refine AW2_ret ?_
  have hz := some_elim H
  subst hz
  exact ⟨⟨res_cella Tryd.underlying29 rfl in_29.sz rfl (Sub.le (Sub.refl _) (GRange.len j'2)) (by decide) (Sub.take (Sub.refl _) (GRange.len j'2)), trivial⟩, trivial⟩
 ·subst hy
  obtain ⟨rfl, hs⟩ := hs
  have hz := some_elim H
  subst hz
  exact ⟨hs.1, hs.2⟩

/-! span.turned -/
noncomputable def g_span_turned (op0 : Int) : Option (Int) :=
  (if op0 = (11 : Int) then some (13 : Int) else (if op0 = (12 : Int) then some (14 : Int) else (if op0 = (13 : Int) then some (11 : Int) else (if op0 = (14 : Int) then some (12 : Int) else some op0))))
set_option maxHeartbeats 4000000 in
set_option maxRecDepth 100000 in
theorem g_span_turned_ac {op0 : Int} {r : Int} (H : g_span_turned op0 = some r) : ACp Tryd.prog 16 [(AV.int op0)] (AV.int r) := by
 refine ACp_of (AC2_of_body (vs := [.i r]) Tryd.func16 rfl rfl (Nat.le_of_ble_eq_true rfl) rfl ?_) (fun _ => .same _)
 unfold g_span_turned at H
 refine as2 [(0, .i op0)] [] rfl rfl rfl ?_
 refine sg [0] rfl ?_
 refine rp rfl rfl (p_asg rfl rfl) ?_
 refine rz [(0, .i op0)] [] rfl rfl rfl ?_
 refine AW2_seq ?_
 refine sg [0] rfl ?_
 refine rp rfl rfl (p_move rfl rfl) ?_
 refine rz [(0, .i op0), (3, .i op0)] [] rfl rfl rfl ?_
 refine AW2_block ?_
 refine sg [0, 1] rfl ?_
 refine rp rfl rfl (p_ieq rfl rfl rfl) ?_
 refine rp rfl rfl (p_asg rfl rfl) ?_
 refine rz [(0, .i op0), (3, .i op0), (4, .b (decide (op0 = (11 : Int))))] [] rfl rfl rfl ?_
 refine AW2_if (p := op0 = (11 : Int)) rfl (fun h1 => ?_) (fun h1 => ?_)
 ·replace H := ite_then h1 H
  refine sg [0] rfl ?_
  refine rp rfl rfl (p_asg rfl rfl) ?_
  refine rz [(2, .i (13 : Int))] [] rfl rfl rfl ?_
  refine AW2_ret ?_
  have hz := some_elim H
  subst hz
  exact ⟨⟨res_tmp (.same _), trivial⟩, trivial⟩
 ·replace H := ite_else h1 H
  refine sg [0, 1] rfl ?_
  refine rp rfl rfl (p_ieq rfl rfl rfl) ?_
  refine rp rfl rfl (p_asg rfl rfl) ?_
  refine rz [(0, .i op0), (3, .i op0), (6, .b (decide (op0 = (12 : Int))))] [] rfl rfl rfl ?_
  refine AW2_if (p := op0 = (12 : Int)) rfl (fun h2 => ?_) (fun h2 => ?_)
  ·replace H := ite_then h2 H
   refine sg [0] rfl ?_
   refine rp rfl rfl (p_asg rfl rfl) ?_
   refine rz [(2, .i (14 : Int))] [] rfl rfl rfl ?_
   refine AW2_ret ?_
   have hz := some_elim H
   subst hz
   exact ⟨⟨res_tmp (.same _), trivial⟩, trivial⟩
  ·replace H := ite_else h2 H
   refine sg [0, 1] rfl ?_
   refine rp rfl rfl (p_ieq rfl rfl rfl) ?_
   refine rp rfl rfl (p_asg rfl rfl) ?_
   refine rz [(0, .i op0), (3, .i op0), (8, .b (decide (op0 = (13 : Int))))] [] rfl rfl rfl ?_
   refine AW2_if (p := op0 = (13 : Int)) rfl (fun h3 => ?_) (fun h3 => ?_)
   ·replace H := ite_then h3 H
    refine sg [0] rfl ?_
    refine rp rfl rfl (p_asg rfl rfl) ?_
    refine rz [(2, .i (11 : Int))] [] rfl rfl rfl ?_
    refine AW2_ret ?_
    have hz := some_elim H
    subst hz
    exact ⟨⟨res_tmp (.same _), trivial⟩, trivial⟩
   ·replace H := ite_else h3 H
    refine sg [0, 1] rfl ?_
    refine rp rfl rfl (p_ieq rfl rfl rfl) ?_
    refine rp rfl rfl (p_asg rfl rfl) ?_
    refine rz [(0, .i op0), (10, .b (decide (op0 = (14 : Int))))] [] rfl rfl rfl ?_
    refine AW2_if (p := op0 = (14 : Int)) rfl (fun h4 => ?_) (fun h4 => ?_)
    ·replace H := ite_then h4 H
     refine sg [0] rfl ?_
     refine rp rfl rfl (p_asg rfl rfl) ?_
     refine rz [(2, .i (12 : Int))] [] rfl rfl rfl ?_
     refine AW2_ret ?_
     have hz := some_elim H
     subst hz
     exact ⟨⟨res_tmp (.same _), trivial⟩, trivial⟩
    ·replace H := ite_else h4 H
     refine as2 [(0, .i op0)] [] rfl rfl rfl ?_
     refine AW2_skip ?_
     refine sg [0, 1] rfl ?_
     refine rp rfl rfl (p_move rfl rfl) ?_
     refine rp rfl rfl (p_asg rfl rfl) ?_
     refine rz [(2, .i op0)] [] rfl rfl rfl ?_
     refine AW2_ret ?_
     have hz := some_elim H
     subst hz
     exact ⟨⟨res_tmp (.same _), trivial⟩, trivial⟩

/-! span.of -/
def g_span_of_r3 : List (List (Nat × Option Nat)) := [[(2, none)], [(19, some 0)], [(20, some 1)], [(21, some 2)], [(1, none)], [(22, some 3), (23, some 4)], [(2, none)], [(25, some 6)], [(26, some 7)], [(27, some 8)], [(1, none)], [(28, some 9), (29, some 10)], [], []]
def g_span_of_r3c : List (List Nat) := [[], [0], [0, 1], [0, 1, 2], [], [0, 1, 2, 3, 4], [], [6], [6, 7], [6, 7, 8], [], [0, 1, 2, 3, 4, 5, 6, 7, 8, 9, 10], [], [], [0, 1, 2, 3, 4, 5, 6, 7, 8, 9, 10, 11, 12, 13], [0, 1, 2, 3, 4, 5, 6, 7, 8, 9, 10, 11, 12, 13, 14]]
def g_span_of_r7 : List (List (Nat × Option Nat)) := [[(2, none)], [(52, some 0)], [(53, some 1)], [(54, some 2)], [(2, none)], [(56, some 4)], [(57, some 5)], [(58, some 6)], [], [], [(8, some 8), (55, some 3)]]
def g_span_of_r7c : List (List Nat) := [[], [0], [0, 1], [0, 1, 2], [], [4], [4, 5], [4, 5, 6], [], [], [0, 1, 2, 3, 8, 9], [0, 1, 2, 3, 4, 5, 6, 7, 8, 9, 10]]
noncomputable def g_span_of_b (R' : GExpr → (List UInt8) → Option GRange) (e0 : GExpr) (col1 : List UInt8) : Option (GRange) :=
  letO ({ { GRange.zero with Lo := (-9223372036854775808 : Int) } with Hi := (9223372036854775807 : Int) }) fun all5'1 => (if e0.Op = (15 : Int) then if 0 < e0.Args.length then (R' (lrd e0.Args 0) col1).bind fun r'2 => if 1 < e0.Args.length then (R' (lrd e0.Args 1) col1).bind fun r'3 => letO ({ { GRange.zero with Lo := imax r'2.Lo r'3.Lo } with Hi := imin r'2.Hi r'3.Hi }) fun t4'4 => some t4'4 else none else none else (if (e0.Op < (9 : Int)) ∨ (e0.Op > (14 : Int)) then some all5'1 else if 0 < e0.Args.length then if 1 < e0.Args.length then (g_span_literal (lrd e0.Args 1)).bind fun r'5 => (if ((r'5.2 = true) ∧ ((lrd e0.Args 0).Op = (2 : Int))) ∧ ((lrd e0.Args 0).Name = col1) then (g_span_bounds e0.Op r'5.1).bind fun r'6 => some r'6 else (g_span_literal (lrd e0.Args 0)).bind fun r'7 => (if ((r'7.2 = true) ∧ ((lrd e0.Args 1).Op = (2 : Int))) ∧ ((lrd e0.Args 1).Name = col1) then (g_span_turned e0.Op).bind fun r'8 => (g_span_bounds r'8 r'7.1).bind fun r'9 => some r'9 else some all5'1)) else none else none))
noncomputable def g_span_of : Nat → GExpr → (List UInt8) → Option GRange
  | 0, _, _ => none
  | fu + 1, e0, col1 => g_span_of_b (g_span_of fu) e0 col1
set_option maxHeartbeats 4000000 in
set_option maxRecDepth 100000 in
theorem g_span_of_ac0 {R' : GExpr → (List UInt8) → Option GRange} (hR : ∀ {e0 : GExpr} {col1 : List UInt8} {r : GRange}, R' e0 col1 = some r → ACp Tryd.prog 7 [(.agg (GExpr.cs e0)), (AV.txt col1)] (.agg (GRange.cs r))) {e0 : GExpr} {col1 : List UInt8} {r : GRange} (H : g_span_of_b R' e0 col1 = some r) : ACp Tryd.prog 7 [(.agg (GExpr.cs e0)), (AV.txt col1)] (.agg (GRange.cs r)) := by
 refine ACp_of (AC2_of_body (vs := [.g (GRange.cs r)]) Tryd.func7 rfl rfl (Nat.le_of_ble_eq_true rfl) rfl ?_) (fun _ => .same _)
 unfold g_span_of_b at H
 refine as2 [(0, .g (GExpr.cs e0)), (1, .t col1)] [] rfl rfl rfl ?_
 refine sg [0, 1] rfl ?_
 refine r_op rfl rfl (MakeD.opD (n_box 2 rfl rfl) rfl rfl rfl rfl) ?_
 refine r_op rfl rfl (MakeD.opD (u_alloc 4 rfl in_29 one_29 zc_29) rfl rfl rfl rfl) ?_
 refine rz [(1, .t col1), (2, .q 2 (0)), (4, .q 4 (0))] [(2, .pure (GExpr.cs e0)), (4, .pure (GRange.cs GRange.zero))] rfl rfl rfl ?_
 refine sg [0, 1, 2] rfl ?_
 refine rp rfl rfl (u_bld rfl in_29 one_29 zc_29 pl_29 rfl (af_cons rfl rfl (GRange.upd0 GRange.zero (-9223372036854775808 : Int)) (af_cons rfl rfl (GRange.upd1 ((GRange.w0 GRange.zero (-9223372036854775808 : Int))) (9223372036854775807 : Int)) rfl))) ?_
 refine r_op rfl rfl (MakeD.opD (u_alloc 5 rfl in_29 one_29 zc_29) rfl rfl rfl rfl) ?_
 refine r_op rfl rfl (u_st rfl rfl rfl rfl rfl in_29 (GRange.len ((GRange.w1 (GRange.w0 GRange.zero (-9223372036854775808 : Int)) (9223372036854775807 : Int)))) (ne_of_lt (n := 0) (Nat.lt_of_lt_of_eq (by decide) (Eq.symm (GRange.len GRange.zero)))) (Upd.refl ((GRange.len ((GRange.w1 (GRange.w0 GRange.zero (-9223372036854775808 : Int)) (9223372036854775807 : Int)))).trans (GRange.len GRange.zero).symm))) ?_
 refine rz [(1, .t col1), (2, .q 2 (0)), (4, .q 4 (0)), (5, .q 5 (0))] [(2, .pure (GExpr.cs e0)), (4, .pure (GRange.cs GRange.zero)), (5, .pure (GRange.cs ((GRange.w1 (GRange.w0 GRange.zero (-9223372036854775808 : Int)) (9223372036854775807 : Int)))))] rfl rfl rfl ?_
 refine gen1 (fun all5'1 => (⟨[(1, .t col1), (2, .q 2 (0)), (4, .q 4 (0)), (5, .q 5 (0))], [(2, .pure (GExpr.cs e0)), (4, .pure (GRange.cs GRange.zero)), (5, .pure (GRange.cs all5'1))], 104⟩ : TS)) H ?_
 intro all5'1 H
 refine AW2_seq ?_
 refine AW2_block ?_
 refine sg [0, 1, 2, 3] rfl ?_
 refine rp rfl rfl (u_fa rfl rfl Tryd.underlying27 rfl in_3 (Nat.succ_ne_zero _) rfl rfl (ne_of_lt (n := 0) (Nat.lt_of_lt_of_eq (by decide) (Eq.symm (GExpr.len e0))))) ?_
 refine rp rfl rfl (u_ld rfl rfl Tryd.underlying3 rfl rfl ((Sub.refl _).trans (GExpr.sub0 e0))) ?_
 refine rp rfl rfl (p_ieq rfl rfl rfl) ?_
 refine rp rfl rfl (p_asg rfl rfl) ?_
 refine rz [(1, .t col1), (2, .q 2 (0)), (4, .q 4 (0)), (5, .q 5 (0)), (15, .b (decide (e0.Op = (15 : Int))))] [(2, .pure (GExpr.cs e0)), (4, .pure (GRange.cs GRange.zero)), (5, .pure (GRange.cs all5'1))] rfl rfl rfl ?_
 refine AW2_if (p := e0.Op = (15 : Int)) rfl (fun h1 => ?_) (fun h1 => ?_)
 ·replace H := ite_then h1 H
  refine AW2_seq ?_
  refine chkK H fun h2 H => ?_
  refine bindK H fun r'2 h3 H => ?_
  refine chkK H fun h4 H => ?_
  refine bindK H fun r'3 h5 H => ?_
  refine AW2_ghoQ ?_
  refine AW2_draw 14 [14, 15] (fun k => ([.q 2 (0 + 6), .p ((fun q : List GExpr => AV.lst (q.flatMap GExpr.cs) q.length) e0.Args), .p (.rptr (e0.Args.flatMap GExpr.cs) (0 * 7)), .g (GExpr.cs (lrd e0.Args 0)), .t col1, .g (GRange.cs r'2), .q 2 (0 + 6), .p ((fun q : List GExpr => AV.lst (q.flatMap GExpr.cs) q.length) e0.Args), .p (.rptr (e0.Args.flatMap GExpr.cs) (1 * 7)), .g (GExpr.cs (lrd e0.Args 1)), .t col1, .g (GRange.cs r'3), .q 6 (0), .q 7 (0)] : List TV).getD k TV.any) (fun k => g_span_of_r3.getD k []) [(4, none), (6, some 12), (7, some 13), (24, some 5), (30, some 11)] [(12, 6, (GRange.cs GRange.zero)), (13, 7, (GRange.cs GRange.zero))] (fun k => g_span_of_r3c.getD k []) mixed (by kernel_rfl) rfl rfl (a_op (g_x rfl (x_p rfl (u_fa rfl rfl Tryd.underlying27 rfl in_25 (Nat.succ_ne_zero _) rfl rfl (ne_of_lt (n := 0) (Nat.lt_of_lt_of_eq (by decide) (Eq.symm (GExpr.len e0))))) rfl)) (a_op (g_x rfl (x_p rfl (u_ld rfl rfl Tryd.underlying25 rfl rfl ((Sub.refl _).trans (GExpr.sub3 e0))) rfl)) (a_op (g_x rfl (x_p rfl (u_ixl rfl rfl Tryd.underlying25 in_27 rfl rfl rfl h2 (fne (fun x => (GExpr.len x)) (by decide) h2)) rfl)) (a_op (g_x rfl (x_p rfl (u_lda rfl rfl Tryd.underlying27 rfl in_27 rfl (Nat.succ_pos _) (Sub.fm default (fun x => (GExpr.len x)) h2) (GExpr.len (lrd e0.Args 0))) rfl)) (a_op (g_x rfl (x_p rfl (p_move rfl rfl) rfl)) (a_op (g_x rfl (x_p rfl (p_callp rfl rfl rfl Tryd.func7 rfl rfl (hR h3) ⟨rfl, rfl, trivial⟩) rfl)) (a_op (g_x rfl (x_p rfl (u_fa rfl rfl Tryd.underlying27 rfl in_25 (Nat.succ_ne_zero _) rfl rfl (ne_of_lt (n := 0) (Nat.lt_of_lt_of_eq (by decide) (Eq.symm (GExpr.len e0))))) rfl)) (a_op (g_x rfl (x_p rfl (u_ld rfl rfl Tryd.underlying25 rfl rfl ((Sub.refl _).trans (GExpr.sub3 e0))) rfl)) (a_op (g_x rfl (x_p rfl (u_ixl rfl rfl Tryd.underlying25 in_27 rfl rfl rfl h4 (fne (fun x => (GExpr.len x)) (by decide) h4)) rfl)) (a_op (g_x rfl (x_p rfl (u_lda rfl rfl Tryd.underlying27 rfl in_27 rfl (Nat.succ_pos _) (Sub.fm default (fun x => (GExpr.len x)) h4) (GExpr.len (lrd e0.Args 1))) rfl)) (a_op (g_x rfl (x_p rfl (p_move rfl rfl) rfl)) (a_op (g_x rfl (x_p rfl (p_callp rfl rfl rfl Tryd.func7 rfl rfl (hR h5) ⟨rfl, rfl, trivial⟩) rfl)) (a_op (g_x rfl (x_m rfl (u_alloc 6 rfl in_29 one_29 zc_29) rfl rfl)) (a_op (g_x rfl (x_m rfl (u_alloc 7 rfl in_29 one_29 zc_29) rfl rfl)) (a_nil))))))))))))))) ?_
  refine t_op rfl rfl (u_st rfl rfl rfl rfl rfl in_29 (GRange.len r'2) (ne_of_lt (n := 0) (Nat.lt_of_lt_of_eq (by decide) (Eq.symm (GRange.len GRange.zero)))) (Upd.refl ((GRange.len r'2).trans (GRange.len GRange.zero).symm))) ?_
  refine t_op rfl rfl (u_st rfl rfl rfl rfl rfl in_29 (GRange.len r'3) (ne_of_lt (n := 0) (Nat.lt_of_lt_of_eq (by decide) (Eq.symm (GRange.len GRange.zero)))) (Upd.refl ((GRange.len r'3).trans (GRange.len GRange.zero).symm))) ?_
  refine t_gho (Gho_st (L := [(4, .q 4 (0)), (6, .q 6 (0)), (7, .q 7 (0))]) (H := [(4, .pure (GRange.cs GRange.zero)), (6, .pure (GRange.cs r'2)), (7, .pure (GRange.cs r'3))]) (N := 104) rfl ⟨TLes.same _, TLes.same _, TLes.same _, trivial⟩ ⟨rfl, rfl, rfl, trivial⟩) ?_
  refine sg [0, 1, 2, 3, 4, 5, 6, 7, 8, 9, 10, 11] rfl ?_
  refine rp rfl rfl (u_fa rfl rfl Tryd.underlying29 rfl in_3 (Nat.succ_ne_zero _) rfl rfl (ne_of_lt (n := 0) (Nat.lt_of_lt_of_eq (by decide) (Eq.symm (GRange.len r'2))))) ?_
  refine rp rfl rfl (u_ld rfl rfl Tryd.underlying3 rfl rfl ((Sub.refl _).trans (GRange.sub0 r'2))) ?_
  refine rp rfl rfl (u_fa rfl rfl Tryd.underlying29 rfl in_3 (Nat.succ_ne_zero _) rfl rfl (ne_of_lt (n := 0) (Nat.lt_of_lt_of_eq (by decide) (Eq.symm (GRange.len r'3))))) ?_
  refine rp rfl rfl (u_ld rfl rfl Tryd.underlying3 rfl rfl ((Sub.refl _).trans (GRange.sub0 r'3))) ?_
  refine rp rfl rfl (p_imax rfl rfl rfl) ?_
  refine rp rfl rfl (u_fa rfl rfl Tryd.underlying29 rfl in_3 (Nat.succ_ne_zero _) rfl rfl (ne_of_lt (n := 0) (Nat.lt_of_lt_of_eq (by decide) (Eq.symm (GRange.len r'2))))) ?_
  refine rp rfl rfl (u_ld rfl rfl Tryd.underlying3 rfl rfl ((Sub.refl _).trans (GRange.sub1 r'2))) ?_
  refine rp rfl rfl (u_fa rfl rfl Tryd.underlying29 rfl in_3 (Nat.succ_ne_zero _) rfl rfl (ne_of_lt (n := 0) (Nat.lt_of_lt_of_eq (by decide) (Eq.symm (GRange.len r'3))))) ?_
  refine rp rfl rfl (u_ld rfl rfl Tryd.underlying3 rfl rfl ((Sub.refl _).trans (GRange.sub1 r'3))) ?_
  refine rp rfl rfl (p_imin rfl rfl rfl) ?_
  refine rp rfl rfl (u_bld rfl in_29 one_29 zc_29 pl_29 rfl (af_cons rfl rfl (GRange.upd0 GRange.zero (imax r'2.Lo r'3.Lo)) (af_cons rfl rfl (GRange.upd1 ((GRange.w0 GRange.zero (imax r'2.Lo r'3.Lo))) (imin r'2.Hi r'3.Hi)) rfl))) ?_
  refine r_op rfl rfl (u_st rfl rfl rfl rfl rfl in_29 (GRange.len ((GRange.w1 (GRange.w0 GRange.zero (imax r'2.Lo r'3.Lo)) (imin r'2.Hi r'3.Hi)))) (ne_of_lt (n := 0) (Nat.lt_of_lt_of_eq (by decide) (Eq.symm (GRange.len GRange.zero)))) (Upd.refl ((GRange.len ((GRange.w1 (GRange.w0 GRange.zero (imax r'2.Lo r'3.Lo)) (imin r'2.Hi r'3.Hi)))).trans (GRange.len GRange.zero).symm))) ?_
  refine rz [(4, .q 4 (0))] [(4, .pure (GRange.cs ((GRange.w1 (GRange.w0 GRange.zero (imax r'2.Lo r'3.Lo)) (imin r'2.Hi r'3.Hi)))))] rfl rfl rfl ?_
  refine gen1 (fun t4'4 => (⟨[(4, .q 4 (0))], [(4, .pure (GRange.cs t4'4))], 104⟩ : TS)) H ?_
  intro t4'4 H
  refine AW2_ret ?_
  have hz := some_elim H
  subst hz
  exact ⟨⟨res_cella Tryd.underlying29 rfl in_29.sz rfl (Sub.le (Sub.refl _) (GRange.len t4'4)) (by decide) (Sub.take (Sub.refl _) (GRange.len t4'4)), trivial⟩, trivial⟩
 ·replace H := ite_else h1 H
  refine AW2_seq ?_
  refine AW2_mid (⟨[(1, .t col1), (2, .q 2 (0)), (4, .q 4 (0)), (5, .q 5 (0)), (42, .b (decide ((e0.Op < (9 : Int)) ∨ (e0.Op > (14 : Int)))))], [(2, .pure (GExpr.cs e0)), (4, .pure (GRange.cs GRange.zero)), (5, .pure (GRange.cs all5'1))], 104⟩ : TS) ?_ ?_
  ·refine AW2_reg [0, 1, 2, 3, 4, 5, 6, 7, 8] rfl ?_
   refine rp rfl rfl (u_fa rfl rfl Tryd.underlying27 rfl in_3 (Nat.succ_ne_zero _) rfl rfl (ne_of_lt (n := 0) (Nat.lt_of_lt_of_eq (by decide) (Eq.symm (GExpr.len e0))))) ?_
   refine rp rfl rfl (u_ld rfl rfl Tryd.underlying3 rfl rfl ((Sub.refl _).trans (GExpr.sub0 e0))) ?_
   refine rp rfl rfl (p_bin rfl rfl rfl rfl) ?_
   refine rp rfl rfl (p_move rfl rfl) ?_
   refine (Classical.em (e0.Op < (9 : Int))).elim (fun h6 => ?_) (fun h6 => ?_)
   ·refine r_off rfl rfl rfl rfl (decide_eq_true h6) rfl rfl ?_
    refine r_off rfl rfl rfl rfl (decide_eq_true h6) rfl rfl ?_
    refine r_off rfl rfl rfl rfl (decide_eq_true h6) rfl rfl ?_
    refine rp rfl rfl (p_pkt rfl rfl (decide_eq_true h6) (tb (decide_eq_true (p := (e0.Op < (9 : Int)) ∨ (e0.Op > (14 : Int))) (Or.inl h6)).symm)) ?_
    refine rp rfl rfl (p_asg rfl rfl) ?_
    refine rs [(1, .t col1), (2, .q 2 (0)), (4, .q 4 (0)), (5, .q 5 (0)), (42, .b (decide ((e0.Op < (9 : Int)) ∨ (e0.Op > (14 : Int)))))] [(2, .pure (GExpr.cs e0)), (4, .pure (GRange.cs GRange.zero)), (5, .pure (GRange.cs all5'1))] rfl rfl rfl ?_
    exact RunW_nil rfl
   ·refine r_on rfl rfl rfl rfl (decide_eq_false h6) rfl (PureD.opD (u_fa rfl rfl Tryd.underlying27 rfl in_3 (Nat.succ_ne_zero _) rfl rfl (ne_of_lt (n := 0) (Nat.lt_of_lt_of_eq (by decide) (Eq.symm (GExpr.len e0)))))) ?_
    refine r_on rfl rfl rfl rfl (decide_eq_false h6) rfl (PureD.opD (u_ld rfl rfl Tryd.underlying3 rfl rfl ((Sub.refl _).trans (GExpr.sub0 e0)))) ?_
    refine r_on rfl rfl rfl rfl (decide_eq_false h6) rfl (PureD.opD (p_bin rfl rfl rfl rfl)) ?_
    refine rp rfl rfl (p_pkf rfl rfl (decide_eq_false h6) (tb ((or_l (p := e0.Op < (9 : Int)) (q := e0.Op > (14 : Int)) h6)))) ?_
    refine rp rfl rfl (p_asg rfl rfl) ?_
    refine rs [(1, .t col1), (2, .q 2 (0)), (4, .q 4 (0)), (5, .q 5 (0)), (42, .b (decide ((e0.Op < (9 : Int)) ∨ (e0.Op > (14 : Int)))))] [(2, .pure (GExpr.cs e0)), (4, .pure (GRange.cs GRange.zero)), (5, .pure (GRange.cs all5'1))] rfl rfl rfl ?_
    exact RunW_nil rfl
  ·refine AW2_if (p := (e0.Op < (9 : Int)) ∨ (e0.Op > (14 : Int))) rfl (fun h7 => ?_) (fun h7 => ?_)
   ·replace H := ite_then h7 H
    refine sg [0, 1] rfl ?_
    refine rp rfl rfl (u_lda rfl rfl Tryd.underlying29 rfl in_29 rfl (Nat.succ_pos _) (Sub.refl _) (GRange.len all5'1)) ?_
    refine r_op rfl rfl (u_st rfl rfl rfl rfl rfl in_29 (GRange.len all5'1) (ne_of_lt (n := 0) (Nat.lt_of_lt_of_eq (by decide) (Eq.symm (GRange.len GRange.zero)))) (Upd.refl ((GRange.len all5'1).trans (GRange.len GRange.zero).symm))) ?_
    refine rz [(4, .q 4 (0))] [(4, .pure (GRange.cs all5'1))] rfl rfl rfl ?_
    refine AW2_ret ?_
    have hz := some_elim H
    subst hz
    exact ⟨⟨res_cella Tryd.underlying29 rfl in_29.sz rfl (Sub.le (Sub.refl _) (GRange.len all5'1)) (by decide) (Sub.take (Sub.refl _) (GRange.len all5'1)), trivial⟩, trivial⟩
   ·replace H := ite_else h7 H
    refine as2 [(1, .t col1), (2, .q 2 (0)), (4, .q 4 (0)), (5, .q 5 (0))] [(2, .pure (GExpr.cs e0)), (4, .pure (GRange.cs GRange.zero)), (5, .pure (GRange.cs all5'1))] rfl rfl rfl ?_
    refine AW2_skip ?_
    refine AW2_seq ?_
    refine chkK H fun h8 H => ?_
    refine chkK H fun h9 H => ?_
    refine AW2_ghoQ ?_
    refine AW2_drawU 11 [11] (fun k => ([.q 2 (0 + 6), .p ((fun q : List GExpr => AV.lst (q.flatMap GExpr.cs) q.length) e0.Args), .p (.rptr (e0.Args.flatMap GExpr.cs) (0 * 7)), .g (GExpr.cs (lrd e0.Args 0)), .q 2 (0 + 6), .p ((fun q : List GExpr => AV.lst (q.flatMap GExpr.cs) q.length) e0.Args), .p (.rptr (e0.Args.flatMap GExpr.cs) (1 * 7)), .g (GExpr.cs (lrd e0.Args 1)), .q 8 (0), .q 9 (0), .p (.tup [])] : List TV).getD k TV.any) (fun k => g_span_of_r7.getD k []) [(1, none), (2, none), (4, none), (5, none), (8, some 8), (9, some 9), (59, some 7)] [(8, 8, (GExpr.cs GExpr.zero)), (9, 9, (GExpr.cs GExpr.zero))] [(10, 8, .pure (GExpr.cs (lrd e0.Args 0)))] [] (fun k => ([[(2, false)], [(2, false)], [], [], [(2, false)], [(2, false)], [], [], [], [], [(8, false)]] : List (List (Nat × Bool))).getD k []) (fun k => g_span_of_r7c.getD k []) mixed (by kernel_rfl) rfl rfl rfl (a_op (gu_x rfl (y_p rfl rfl (u_fa rfl rfl Tryd.underlying27 rfl in_25 (Nat.succ_ne_zero _) rfl rfl (ne_of_lt (n := 0) (Nat.lt_of_lt_of_eq (by decide) (Eq.symm (GExpr.len e0))))) rfl)) (a_op (gu_x rfl (y_p rfl rfl (u_ld rfl rfl Tryd.underlying25 rfl rfl ((Sub.refl _).trans (GExpr.sub3 e0))) rfl)) (a_op (gu_x rfl (y_p rfl rfl (u_ixl rfl rfl Tryd.underlying25 in_27 rfl rfl rfl h8 (fne (fun x => (GExpr.len x)) (by decide) h8)) rfl)) (a_op (gu_x rfl (y_p rfl rfl (u_lda rfl rfl Tryd.underlying27 rfl in_27 rfl (Nat.succ_pos _) (Sub.fm default (fun x => (GExpr.len x)) h8) (GExpr.len (lrd e0.Args 0))) rfl)) (a_op (gu_x rfl (y_p rfl rfl (u_fa rfl rfl Tryd.underlying27 rfl in_25 (Nat.succ_ne_zero _) rfl rfl (ne_of_lt (n := 0) (Nat.lt_of_lt_of_eq (by decide) (Eq.symm (GExpr.len e0))))) rfl)) (a_op (gu_x rfl (y_p rfl rfl (u_ld rfl rfl Tryd.underlying25 rfl rfl ((Sub.refl _).trans (GExpr.sub3 e0))) rfl)) (a_op (gu_x rfl (y_p rfl rfl (u_ixl rfl rfl Tryd.underlying25 in_27 rfl rfl rfl h9 (fne (fun x => (GExpr.len x)) (by decide) h9)) rfl)) (a_op (gu_x rfl (y_p rfl rfl (u_lda rfl rfl Tryd.underlying27 rfl in_27 rfl (Nat.succ_pos _) (Sub.fm default (fun x => (GExpr.len x)) h9) (GExpr.len (lrd e0.Args 1))) rfl)) (a_op (gu_x rfl (y_m rfl rfl (u_alloc 8 rfl in_27 one_27 zc_27) rfl rfl)) (a_op (gu_x rfl (y_m rfl rfl (u_alloc 9 rfl in_27 one_27 zc_27) rfl rfl)) (a_op (gu_x rfl (y_u rfl rfl rfl rfl (UpdD_st rfl rfl rfl rfl rfl in_27 (GExpr.len (lrd e0.Args 0)) (ne_of_lt (n := 0) (Nat.lt_of_lt_of_eq (by decide) (Eq.symm (GExpr.len GExpr.zero)))) (Upd.refl ((GExpr.len (lrd e0.Args 0)).trans (GExpr.len GExpr.zero).symm))) rfl rfl)) (a_nil)))))))))))) ?_
    refine t_op rfl rfl (u_st rfl rfl rfl rfl rfl in_27 (GExpr.len (lrd e0.Args 1)) (ne_of_lt (n := 0) (Nat.lt_of_lt_of_eq (by decide) (Eq.symm (GExpr.len GExpr.zero)))) (Upd.refl ((GExpr.len (lrd e0.Args 1)).trans (GExpr.len GExpr.zero).symm))) ?_
    refine t_gho (Gho_st (L := [(1, .t col1), (2, .q 2 (0)), (4, .q 4 (0)), (5, .q 5 (0)), (8, .q 8 (0)), (9, .q 9 (0))]) (H := [(2, .pure (GExpr.cs e0)), (4, .pure (GRange.cs GRange.zero)), (5, .pure (GRange.cs all5'1)), (8, .pure (GExpr.cs (lrd e0.Args 0))), (9, .pure (GExpr.cs (lrd e0.Args 1)))]) (N := 104) rfl ⟨TLes.same _, TLes.same _, TLes.same _, TLes.same _, TLes.same _, TLes.same _, trivial⟩ ⟨rfl, rfl, rfl, rfl, rfl, trivial⟩) ?_
    refine AW2_seq ?_
    refine sg [0, 1, 2, 3, 4, 5, 6] rfl ?_
    refine rp rfl rfl (u_lda rfl rfl Tryd.underlying27 rfl in_27 rfl (Nat.succ_pos _) (Sub.refl _) (GExpr.len (lrd e0.Args 1))) ?_
    refine bindK H fun r'5 h10 H => ?_
    refine rp rfl rfl (p_callp rfl rfl rfl Tryd.func14 rfl rfl (g_span_literal_ac h10) ⟨rfl, trivial⟩) ?_
    refine rp rfl rfl (p_move rfl rfl) ?_
    refine rp rfl rfl (p_ext rfl rfl rfl rfl) ?_
    refine rp rfl rfl (p_ext rfl rfl rfl rfl) ?_
    refine rp rfl rfl (p_asg rfl rfl) ?_
    refine rp rfl rfl (p_asg rfl rfl) ?_
    refine rz [(1, .t col1), (2, .q 2 (0)), (4, .q 4 (0)), (5, .q 5 (0)), (8, .q 8 (0)), (9, .q 9 (0)), (10, .i r'5.1), (11, .b r'5.2)] [(2, .pure (GExpr.cs e0)), (4, .pure (GRange.cs GRange.zero)), (5, .pure (GRange.cs all5'1)), (8, .pure (GExpr.cs (lrd e0.Args 0))), (9, .pure (GExpr.cs (lrd e0.Args 1)))] rfl rfl rfl ?_
    refine AW2_seq ?_
    refine AW2_mid (⟨[(1, .t col1), (2, .q 2 (0)), (4, .q 4 (0)), (5, .q 5 (0)), (8, .q 8 (0)), (9, .q 9 (0)), (10, .i r'5.1), (76, .b (decide (((r'5.2 = true) ∧ ((lrd e0.Args 0).Op = (2 : Int))) ∧ ((lrd e0.Args 0).Name = col1))))], [(2, .pure (GExpr.cs e0)), (4, .pure (GRange.cs GRange.zero)), (5, .pure (GRange.cs all5'1)), (8, .pure (GExpr.cs (lrd e0.Args 0))), (9, .pure (GExpr.cs (lrd e0.Args 1)))], 104⟩ : TS) ?_ ?_
    ·refine AW2_reg [0, 1, 2, 3, 4, 5, 6, 7, 8, 9, 10, 11] rfl ?_
     refine rp rfl rfl (p_move rfl rfl) ?_
     refine rp rfl rfl (p_move rfl rfl) ?_
     refine (Classical.em (r'5.2 = true)).elim (fun h11 => ?_) (fun h11 => ?_)
     ·refine rn rfl rfl rfl rfl h11 rfl (u_fa rfl rfl Tryd.underlying27 rfl in_3 (Nat.succ_ne_zero _) rfl rfl (ne_of_lt (n := 0) (Nat.lt_of_lt_of_eq (by decide) (Eq.symm (GExpr.len (lrd e0.Args 0)))))) ?_
      refine rn rfl rfl rfl rfl h11 rfl (u_ld rfl rfl Tryd.underlying3 rfl rfl ((Sub.refl _).trans (GExpr.sub0 (lrd e0.Args 0)))) ?_
      refine rn rfl rfl rfl rfl h11 rfl (p_ieq rfl rfl rfl) ?_
      refine rp rfl rfl (p_pkt rfl rfl h11 (tb ((and_l (p := r'5.2 = true) (q := (lrd e0.Args 0).Op = (2 : Int)) h11)))) ?_
      refine rp rfl rfl (p_move rfl rfl) ?_
      refine (Classical.em ((lrd e0.Args 0).Op = (2 : Int))).elim (fun h12 => ?_) (fun h12 => ?_)
      ·refine r_on rfl rfl rfl rfl (decide_eq_true (p := (r'5.2 = true) ∧ ((lrd e0.Args 0).Op = (2 : Int))) ⟨h11, h12⟩) rfl (PureD.opD (u_fa rfl rfl Tryd.underlying27 rfl in_9 (Nat.succ_ne_zero _) rfl rfl (ne_of_lt (n := 0) (Nat.lt_of_lt_of_eq (by decide) (Eq.symm (GExpr.len (lrd e0.Args 0))))))) ?_
       refine r_on rfl rfl rfl rfl (decide_eq_true (p := (r'5.2 = true) ∧ ((lrd e0.Args 0).Op = (2 : Int))) ⟨h11, h12⟩) rfl (PureD.opD (u_ld rfl rfl Tryd.underlying9 rfl rfl ((Sub.refl _).trans (GExpr.sub2 (lrd e0.Args 0))))) ?_
       refine r_on rfl rfl rfl rfl (decide_eq_true (p := (r'5.2 = true) ∧ ((lrd e0.Args 0).Op = (2 : Int))) ⟨h11, h12⟩) rfl (PureD.opD (p_move rfl rfl)) ?_
       refine r_on rfl rfl rfl rfl (decide_eq_true (p := (r'5.2 = true) ∧ ((lrd e0.Args 0).Op = (2 : Int))) ⟨h11, h12⟩) rfl (PureD.opD (p_seq rfl rfl rfl)) ?_
       refine rp rfl rfl (p_pkt rfl rfl (decide_eq_true (p := (r'5.2 = true) ∧ ((lrd e0.Args 0).Op = (2 : Int))) ⟨h11, h12⟩) (tb ((and_l (p := (r'5.2 = true) ∧ ((lrd e0.Args 0).Op = (2 : Int))) (q := (lrd e0.Args 0).Name = col1) ⟨h11, h12⟩)))) ?_
       refine rs [(1, .t col1), (2, .q 2 (0)), (4, .q 4 (0)), (5, .q 5 (0)), (8, .q 8 (0)), (9, .q 9 (0)), (10, .i r'5.1), (76, .b (decide (((r'5.2 = true) ∧ ((lrd e0.Args 0).Op = (2 : Int))) ∧ ((lrd e0.Args 0).Name = col1))))] [(2, .pure (GExpr.cs e0)), (4, .pure (GRange.cs GRange.zero)), (5, .pure (GRange.cs all5'1)), (8, .pure (GExpr.cs (lrd e0.Args 0))), (9, .pure (GExpr.cs (lrd e0.Args 1)))] rfl rfl rfl ?_
       exact RunW_nil rfl
      ·refine r_off rfl rfl rfl rfl (decide_eq_false (p := (r'5.2 = true) ∧ ((lrd e0.Args 0).Op = (2 : Int))) (fun h => h12 h.2)) rfl rfl ?_
       refine r_off rfl rfl rfl rfl (decide_eq_false (p := (r'5.2 = true) ∧ ((lrd e0.Args 0).Op = (2 : Int))) (fun h => h12 h.2)) rfl rfl ?_
       refine r_off rfl rfl rfl rfl (decide_eq_false (p := (r'5.2 = true) ∧ ((lrd e0.Args 0).Op = (2 : Int))) (fun h => h12 h.2)) rfl rfl ?_
       refine r_off rfl rfl rfl rfl (decide_eq_false (p := (r'5.2 = true) ∧ ((lrd e0.Args 0).Op = (2 : Int))) (fun h => h12 h.2)) rfl rfl ?_
       refine rp rfl rfl (p_pkf rfl rfl (decide_eq_false (p := (r'5.2 = true) ∧ ((lrd e0.Args 0).Op = (2 : Int))) (fun h => h12 h.2)) (tb (decide_eq_false (p := ((r'5.2 = true) ∧ ((lrd e0.Args 0).Op = (2 : Int))) ∧ ((lrd e0.Args 0).Name = col1)) (fun x => (fun h => h12 h.2) x.1)).symm)) ?_
       refine rs [(1, .t col1), (2, .q 2 (0)), (4, .q 4 (0)), (5, .q 5 (0)), (8, .q 8 (0)), (9, .q 9 (0)), (10, .i r'5.1), (76, .b (decide (((r'5.2 = true) ∧ ((lrd e0.Args 0).Op = (2 : Int))) ∧ ((lrd e0.Args 0).Name = col1))))] [(2, .pure (GExpr.cs e0)), (4, .pure (GRange.cs GRange.zero)), (5, .pure (GRange.cs all5'1)), (8, .pure (GExpr.cs (lrd e0.Args 0))), (9, .pure (GExpr.cs (lrd e0.Args 1)))] rfl rfl rfl ?_
       exact RunW_nil rfl
     ·refine r_off rfl rfl rfl rfl (bfalse h11) rfl rfl ?_
      refine r_off rfl rfl rfl rfl (bfalse h11) rfl rfl ?_
      refine r_off rfl rfl rfl rfl (bfalse h11) rfl rfl ?_
      refine rp rfl rfl (p_pkf rfl rfl (bfalse h11) (tb (decide_eq_false (p := (r'5.2 = true) ∧ ((lrd e0.Args 0).Op = (2 : Int))) (fun x => h11 x.1)).symm)) ?_
      refine rp rfl rfl (p_move rfl rfl) ?_
      refine r_off rfl rfl rfl rfl (decide_eq_false (p := (r'5.2 = true) ∧ ((lrd e0.Args 0).Op = (2 : Int))) (fun h => h11 h.1)) rfl rfl ?_
      refine r_off rfl rfl rfl rfl (decide_eq_false (p := (r'5.2 = true) ∧ ((lrd e0.Args 0).Op = (2 : Int))) (fun h => h11 h.1)) rfl rfl ?_
      refine r_off rfl rfl rfl rfl (decide_eq_false (p := (r'5.2 = true) ∧ ((lrd e0.Args 0).Op = (2 : Int))) (fun h => h11 h.1)) rfl rfl ?_
      refine r_off rfl rfl rfl rfl (decide_eq_false (p := (r'5.2 = true) ∧ ((lrd e0.Args 0).Op = (2 : Int))) (fun h => h11 h.1)) rfl rfl ?_
      refine rp rfl rfl (p_pkf rfl rfl (decide_eq_false (p := (r'5.2 = true) ∧ ((lrd e0.Args 0).Op = (2 : Int))) (fun h => h11 h.1)) (tb (decide_eq_false (p := ((r'5.2 = true) ∧ ((lrd e0.Args 0).Op = (2 : Int))) ∧ ((lrd e0.Args 0).Name = col1)) (fun x => (fun h => h11 h.1) x.1)).symm)) ?_
      refine rs [(1, .t col1), (2, .q 2 (0)), (4, .q 4 (0)), (5, .q 5 (0)), (8, .q 8 (0)), (9, .q 9 (0)), (10, .i r'5.1), (76, .b (decide (((r'5.2 = true) ∧ ((lrd e0.Args 0).Op = (2 : Int))) ∧ ((lrd e0.Args 0).Name = col1))))] [(2, .pure (GExpr.cs e0)), (4, .pure (GRange.cs GRange.zero)), (5, .pure (GRange.cs all5'1)), (8, .pure (GExpr.cs (lrd e0.Args 0))), (9, .pure (GExpr.cs (lrd e0.Args 1)))] rfl rfl rfl ?_
      exact RunW_nil rfl
    ·refine AW2_if (p := ((r'5.2 = true) ∧ ((lrd e0.Args 0).Op = (2 : Int))) ∧ ((lrd e0.Args 0).Name = col1)) rfl (fun h13 => ?_) (fun h13 => ?_)
     ·replace H := ite_then h13 H
      refine sg [0, 1, 2, 3, 4] rfl ?_
      refine rp rfl rfl (u_fa rfl rfl Tryd.underlying27 rfl in_3 (Nat.succ_ne_zero _) rfl rfl (ne_of_lt (n := 0) (Nat.lt_of_lt_of_eq (by decide) (Eq.symm (GExpr.len e0))))) ?_
      refine rp rfl rfl (u_ld rfl rfl Tryd.underlying3 rfl rfl ((Sub.refl _).trans (GExpr.sub0 e0))) ?_
      refine rp rfl rfl (p_move rfl rfl) ?_
      refine bindK H fun r'6 h14 H => ?_
      refine rp rfl rfl (p_callp rfl rfl rfl Tryd.func15 rfl rfl (g_span_bounds_ac h14) ⟨rfl, rfl, trivial⟩) ?_
      refine r_op rfl rfl (u_st rfl rfl rfl rfl rfl in_29 (GRange.len r'6) (ne_of_lt (n := 0) (Nat.lt_of_lt_of_eq (by decide) (Eq.symm (GRange.len GRange.zero)))) (Upd.refl ((GRange.len r'6).trans (GRange.len GRange.zero).symm))) ?_
      refine rz [(4, .q 4 (0))] [(4, .pure (GRange.cs r'6))] rfl rfl rfl ?_
      refine AW2_ret ?_
      have hz := some_elim H
      subst hz
      exact ⟨⟨res_cella Tryd.underlying29 rfl in_29.sz rfl (Sub.le (Sub.refl _) (GRange.len r'6)) (by decide) (Sub.take (Sub.refl _) (GRange.len r'6)), trivial⟩, trivial⟩
     ·replace H := ite_else h13 H
      refine as2 [(1, .t col1), (2, .q 2 (0)), (4, .q 4 (0)), (5, .q 5 (0)), (8, .q 8 (0)), (9, .q 9 (0))] [(2, .pure (GExpr.cs e0)), (4, .pure (GRange.cs GRange.zero)), (5, .pure (GRange.cs all5'1)), (8, .pure (GExpr.cs (lrd e0.Args 0))), (9, .pure (GExpr.cs (lrd e0.Args 1)))] rfl rfl rfl ?_
      refine AW2_skip ?_
      refine AW2_seq ?_
      refine sg [0, 1, 2, 3, 4, 5, 6] rfl ?_
      refine rp rfl rfl (u_lda rfl rfl Tryd.underlying27 rfl in_27 rfl (Nat.succ_pos _) (Sub.refl _) (GExpr.len (lrd e0.Args 0))) ?_
      refine bindK H fun r'7 h15 H => ?_
      refine rp rfl rfl (p_callp rfl rfl rfl Tryd.func14 rfl rfl (g_span_literal_ac h15) ⟨rfl, trivial⟩) ?_
      refine rp rfl rfl (p_move rfl rfl) ?_
      refine rp rfl rfl (p_ext rfl rfl rfl rfl) ?_
      refine rp rfl rfl (p_ext rfl rfl rfl rfl) ?_
      refine rp rfl rfl (p_asg rfl rfl) ?_
      refine rp rfl rfl (p_asg rfl rfl) ?_
      refine rz [(1, .t col1), (2, .q 2 (0)), (4, .q 4 (0)), (5, .q 5 (0)), (9, .q 9 (0)), (12, .i r'7.1), (13, .b r'7.2)] [(2, .pure (GExpr.cs e0)), (4, .pure (GRange.cs GRange.zero)), (5, .pure (GRange.cs all5'1)), (9, .pure (GExpr.cs (lrd e0.Args 1)))] rfl rfl rfl ?_
      refine AW2_seq ?_
      refine AW2_mid (⟨[(2, .q 2 (0)), (4, .q 4 (0)), (5, .q 5 (0)), (12, .i r'7.1), (97, .b (decide (((r'7.2 = true) ∧ ((lrd e0.Args 1).Op = (2 : Int))) ∧ ((lrd e0.Args 1).Name = col1))))], [(2, .pure (GExpr.cs e0)), (4, .pure (GRange.cs GRange.zero)), (5, .pure (GRange.cs all5'1))], 104⟩ : TS) ?_ ?_
      ·refine AW2_reg [0, 1, 2, 3, 4, 5, 6, 7, 8, 9, 10, 11] rfl ?_
       refine rp rfl rfl (p_move rfl rfl) ?_
       refine rp rfl rfl (p_move rfl rfl) ?_
       refine (Classical.em (r'7.2 = true)).elim (fun h16 => ?_) (fun h16 => ?_)
       ·refine rn rfl rfl rfl rfl h16 rfl (u_fa rfl rfl Tryd.underlying27 rfl in_3 (Nat.succ_ne_zero _) rfl rfl (ne_of_lt (n := 0) (Nat.lt_of_lt_of_eq (by decide) (Eq.symm (GExpr.len (lrd e0.Args 1)))))) ?_
        refine rn rfl rfl rfl rfl h16 rfl (u_ld rfl rfl Tryd.underlying3 rfl rfl ((Sub.refl _).trans (GExpr.sub0 (lrd e0.Args 1)))) ?_
        refine rn rfl rfl rfl rfl h16 rfl (p_ieq rfl rfl rfl) ?_
        refine rp rfl rfl (p_pkt rfl rfl h16 (tb ((and_l (p := r'7.2 = true) (q := (lrd e0.Args 1).Op = (2 : Int)) h16)))) ?_
        refine rp rfl rfl (p_move rfl rfl) ?_
        refine (Classical.em ((lrd e0.Args 1).Op = (2 : Int))).elim (fun h17 => ?_) (fun h17 => ?_)
        ·refine r_on rfl rfl rfl rfl (decide_eq_true (p := (r'7.2 = true) ∧ ((lrd e0.Args 1).Op = (2 : Int))) ⟨h16, h17⟩) rfl (PureD.opD (u_fa rfl rfl Tryd.underlying27 rfl in_9 (Nat.succ_ne_zero _) rfl rfl (ne_of_lt (n := 0) (Nat.lt_of_lt_of_eq (by decide) (Eq.symm (GExpr.len (lrd e0.Args 1))))))) ?_
         refine r_on rfl rfl rfl rfl (decide_eq_true (p := (r'7.2 = true) ∧ ((lrd e0.Args 1).Op = (2 : Int))) ⟨h16, h17⟩) rfl (PureD.opD (u_ld rfl rfl Tryd.underlying9 rfl rfl ((Sub.refl _).trans (GExpr.sub2 (lrd e0.Args 1))))) ?_
         refine r_on rfl rfl rfl rfl (decide_eq_true (p := (r'7.2 = true) ∧ ((lrd e0.Args 1).Op = (2 : Int))) ⟨h16, h17⟩) rfl (PureD.opD (p_move rfl rfl)) ?_
         refine r_on rfl rfl rfl rfl (decide_eq_true (p := (r'7.2 = true) ∧ ((lrd e0.Args 1).Op = (2 : Int))) ⟨h16, h17⟩) rfl (PureD.opD (p_seq rfl rfl rfl)) ?_
         refine rp rfl rfl (p_pkt rfl rfl (decide_eq_true (p := (r'7.2 = true) ∧ ((lrd e0.Args 1).Op = (2 : Int))) ⟨h16, h17⟩) (tb ((and_l (p := (r'7.2 = true) ∧ ((lrd e0.Args 1).Op = (2 : Int))) (q := (lrd e0.Args 1).Name = col1) ⟨h16, h17⟩)))) ?_
         refine rs [(2, .q 2 (0)), (4, .q 4 (0)), (5, .q 5 (0)), (12, .i r'7.1), (97, .b (decide (((r'7.2 = true) ∧ ((lrd e0.Args 1).Op = (2 : Int))) ∧ ((lrd e0.Args 1).Name = col1))))] [(2, .pure (GExpr.cs e0)), (4, .pure (GRange.cs GRange.zero)), (5, .pure (GRange.cs all5'1))] rfl rfl rfl ?_
         exact RunW_nil rfl
        ·refine r_off rfl rfl rfl rfl (decide_eq_false (p := (r'7.2 = true) ∧ ((lrd e0.Args 1).Op = (2 : Int))) (fun h => h17 h.2)) rfl rfl ?_
         refine r_off rfl rfl rfl rfl (decide_eq_false (p := (r'7.2 = true) ∧ ((lrd e0.Args 1).Op = (2 : Int))) (fun h => h17 h.2)) rfl rfl ?_
         refine r_off rfl rfl rfl rfl (decide_eq_false (p := (r'7.2 = true) ∧ ((lrd e0.Args 1).Op = (2 : Int))) (fun h => h17 h.2)) rfl rfl ?_
         refine r_off rfl rfl rfl rfl (decide_eq_false (p := (r'7.2 = true) ∧ ((lrd e0.Args 1).Op = (2 : Int))) (fun h => h17 h.2)) rfl rfl ?_
         refine rp rfl rfl (p_pkf rfl rfl (decide_eq_false (p := (r'7.2 = true) ∧ ((lrd e0.Args 1).Op = (2 : Int))) (fun h => h17 h.2)) (tb (decide_eq_false (p := ((r'7.2 = true) ∧ ((lrd e0.Args 1).Op = (2 : Int))) ∧ ((lrd e0.Args 1).Name = col1)) (fun x => (fun h => h17 h.2) x.1)).symm)) ?_
         refine rs [(2, .q 2 (0)), (4, .q 4 (0)), (5, .q 5 (0)), (12, .i r'7.1), (97, .b (decide (((r'7.2 = true) ∧ ((lrd e0.Args 1).Op = (2 : Int))) ∧ ((lrd e0.Args 1).Name = col1))))] [(2, .pure (GExpr.cs e0)), (4, .pure (GRange.cs GRange.zero)), (5, .pure (GRange.cs all5'1))] rfl rfl rfl ?_
         exact RunW_nil rfl
       ·refine r_off rfl rfl rfl rfl (bfalse h16) rfl rfl ?_
        refine r_off rfl rfl rfl rfl (bfalse h16) rfl rfl ?_
        refine r_off rfl rfl rfl rfl (bfalse h16) rfl rfl ?_
        refine rp rfl rfl (p_pkf rfl rfl (bfalse h16) (tb (decide_eq_false (p := (r'7.2 = true) ∧ ((lrd e0.Args 1).Op = (2 : Int))) (fun x => h16 x.1)).symm)) ?_
        refine rp rfl rfl (p_move rfl rfl) ?_
        refine r_off rfl rfl rfl rfl (decide_eq_false (p := (r'7.2 = true) ∧ ((lrd e0.Args 1).Op = (2 : Int))) (fun h => h16 h.1)) rfl rfl ?_
        refine r_off rfl rfl rfl rfl (decide_eq_false (p := (r'7.2 = true) ∧ ((lrd e0.Args 1).Op = (2 : Int))) (fun h => h16 h.1)) rfl rfl ?_
        refine r_off rfl rfl rfl rfl (decide_eq_false (p := (r'7.2 = true) ∧ ((lrd e0.Args 1).Op = (2 : Int))) (fun h => h16 h.1)) rfl rfl ?_
        refine r_off rfl rfl rfl rfl (decide_eq_false (p := (r'7.2 = true) ∧ ((lrd e0.Args 1).Op = (2 : Int))) (fun h => h16 h.1)) rfl rfl ?_
        refine rp rfl rfl (p_pkf rfl rfl (decide_eq_false (p := (r'7.2 = true) ∧ ((lrd e0.Args 1).Op = (2 : Int))) (fun h => h16 h.1)) (tb (decide_eq_false (p := ((r'7.2 = true) ∧ ((lrd e0.Args 1).Op = (2 : Int))) ∧ ((lrd e0.Args 1).Name = col1)) (fun x => (fun h => h16 h.1) x.1)).symm)) ?_
        refine rs [(2, .q 2 (0)), (4, .q 4 (0)), (5, .q 5 (0)), (12, .i r'7.1), (97, .b (decide (((r'7.2 = true) ∧ ((lrd e0.Args 1).Op = (2 : Int))) ∧ ((lrd e0.Args 1).Name = col1))))] [(2, .pure (GExpr.cs e0)), (4, .pure (GRange.cs GRange.zero)), (5, .pure (GRange.cs all5'1))] rfl rfl rfl ?_
        exact RunW_nil rfl
      ·refine AW2_if (p := ((r'7.2 = true) ∧ ((lrd e0.Args 1).Op = (2 : Int))) ∧ ((lrd e0.Args 1).Name = col1)) rfl (fun h18 => ?_) (fun h18 => ?_)
       ·replace H := ite_then h18 H
        refine sg [0, 1, 2, 3, 4, 5] rfl ?_
        refine rp rfl rfl (u_fa rfl rfl Tryd.underlying27 rfl in_3 (Nat.succ_ne_zero _) rfl rfl (ne_of_lt (n := 0) (Nat.lt_of_lt_of_eq (by decide) (Eq.symm (GExpr.len e0))))) ?_
        refine rp rfl rfl (u_ld rfl rfl Tryd.underlying3 rfl rfl ((Sub.refl _).trans (GExpr.sub0 e0))) ?_
        refine bindK H fun r'8 h19 H => ?_
        refine rp rfl rfl (p_callp rfl rfl rfl Tryd.func16 rfl rfl (g_span_turned_ac h19) ⟨rfl, trivial⟩) ?_
        refine rp rfl rfl (p_move rfl rfl) ?_
        refine bindK H fun r'9 h20 H => ?_
        refine rp rfl rfl (p_callp rfl rfl rfl Tryd.func15 rfl rfl (g_span_bounds_ac h20) ⟨rfl, rfl, trivial⟩) ?_
        refine r_op rfl rfl (u_st rfl rfl rfl rfl rfl in_29 (GRange.len r'9) (ne_of_lt (n := 0) (Nat.lt_of_lt_of_eq (by decide) (Eq.symm (GRange.len GRange.zero)))) (Upd.refl ((GRange.len r'9).trans (GRange.len GRange.zero).symm))) ?_
        refine rz [(4, .q 4 (0))] [(4, .pure (GRange.cs r'9))] rfl rfl rfl ?_
        refine AW2_ret ?_
        have hz := some_elim H
        subst hz
        exact ⟨⟨res_cella Tryd.underlying29 rfl in_29.sz rfl (Sub.le (Sub.refl _) (GRange.len r'9)) (by decide) (Sub.take (Sub.refl _) (GRange.len r'9)), trivial⟩, trivial⟩
       ·replace H := ite_else h18 H
        refine as2 [(4, .q 4 (0)), (5, .q 5 (0))] [(4, .pure (GRange.cs GRange.zero)), (5, .pure (GRange.cs all5'1))] rfl rfl rfl ?_
        refine AW2_skip ?_
        refine sg [0, 1] rfl ?_
        refine rp rfl rfl (u_lda rfl rfl Tryd.underlying29 rfl in_29 rfl (Nat.succ_pos _) (Sub.refl _) (GRange.len all5'1)) ?_
        refine r_op rfl rfl (u_st rfl rfl rfl rfl rfl in_29 (GRange.len all5'1) (ne_of_lt (n := 0) (Nat.lt_of_lt_of_eq (by decide) (Eq.symm (GRange.len GRange.zero)))) (Upd.refl ((GRange.len all5'1).trans (GRange.len GRange.zero).symm))) ?_
        refine rz [(4, .q 4 (0))] [(4, .pure (GRange.cs all5'1))] rfl rfl rfl ?_
        refine AW2_ret ?_
        have hz := some_elim H
        subst hz
        exact ⟨⟨res_cella Tryd.underlying29 rfl in_29.sz rfl (Sub.le (Sub.refl _) (GRange.len all5'1)) (by decide) (Sub.take (Sub.refl _) (GRange.len all5'1)), trivial⟩, trivial⟩
theorem g_span_of_acN : ∀ (fu : Nat) {e0 : GExpr} {col1 : List UInt8} {r : GRange}, g_span_of fu e0 col1 = some r → ACp Tryd.prog 7 [(.agg (GExpr.cs e0)), (AV.txt col1)] (.agg (GRange.cs r))
 | 0, _, _, _, H => (by cases H)
 | fu + 1, _, _, _, H => g_span_of_ac0 (g_span_of_acN fu) H
theorem g_span_of_ac {e0 : GExpr} {col1 : List UInt8} {r : GRange} (H : g_span_of 100000 e0 col1 = some r) : ACp Tryd.prog 7 [(.agg (GExpr.cs e0)), (AV.txt col1)] (.agg (GRange.cs r)) := g_span_of_acN 100000 H
end Go.Proofs.YtichdokjjdkjdaaDoor.VM
