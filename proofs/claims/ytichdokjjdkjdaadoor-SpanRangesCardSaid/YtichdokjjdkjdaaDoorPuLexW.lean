/- Words and rules that the proof uses. -/
import Derived.Test.YtichdokjjdkjdaaDoorPuLex1
namespace Go.Proofs.YtichdokjjdkjdaaDoor.VM
open Go Go.RowKit
def wrong (long ok : Prop) [Decidable long] [Decidable ok] : Int := if long then 1 else if ok then 0 else 3
theorem wrong_l {long : Prop} [Decidable long] {b b1 b2 : Bool} {w : Prop} [Decidable w] (h1 : b1 = true ↔ long) (h2 : b2 = true ↔ ¬ w) : (if b1 = true then some (1 : Int) else (if b2 = true then some (3 : Int) else ((some b : Option Bool).bind fun j'3 => (if (!j'3) = true then some (3 : Int) else some (0 : Int))))) = some (wrong long (b = true ∧ w)) := by
 unfold wrong
 by_cases hl : long
 ·rw [if_pos (h1.2 hl), if_pos hl]
 ·rw [if_neg (fun h => hl (h1.1 h)), if_neg hl]
  by_cases hw : w
  ·rw [if_neg (fun h => h2.1 h hw), Option.bind_some]
   cases b with
   | true => rw [if_neg (show ¬ ((!true) = true) by decide), if_pos ⟨rfl, hw⟩]
   | false => rw [if_pos (show (!false) = true from rfl), if_neg (by simp)]
  ·rw [if_pos (h2.2 hw), if_neg (fun h => hw h.2)]
theorem name_lex (t : GToken) (hK : t.Kind = 1) (hT : t.Text.length < 9223372036854775807) : g_lex_Check t = some (wrong ((t.Text.length : Int) > 8) (isNm t.Text = true ∧ (t.Int_ = 0 ∧ t.Bits = 0))) := by
 obtain ⟨K, T, I, B⟩ := t
 dsimp only at hK hT ⊢
 subst hK
 unfold g_lex_Check
 dsimp only
 rw [if_neg (show ¬ ((1 : Int) < 1 ∨ (1 : Int) > 6) by decide), letO_eq, letO_eq, if_pos (show (1 : Int) = 1 from rfl), nameP_eq T hT]
 exact wrong_l (by simp) (by simp [-not_and, Classical.not_and_iff_not_or_not])
theorem name_eq (s : List UInt8) (hs : s.length < 9223372036854775807) : g_lex_Check ({ { GToken.zero with Kind := (1 : Int) } with Text := s }) = some (wrong ((s.length : Int) > 8) (isNm s = true)) := by
 have h := name_lex ({ { GToken.zero with Kind := (1 : Int) } with Text := s }) rfl hs
 rw [h]
 congr 1
 unfold wrong
 by_cases h : isNm s = true
 ·simp [GToken.zero, h]
 ·simp [GToken.zero, h]
end Go.Proofs.YtichdokjjdkjdaaDoor.VM
