/- Tokens: what is wrong with one. -/
import Derived.Test.YtalnmpfjgiecdaaDoorPuLex1
namespace Go.Proofs.YtalnmpfjgiecdaaDoor.VM
open Go Go.RowKit
theorem check_real (b : UInt64) : g_value_Check ({ { GValue.zero with Kind := (3 : Int) } with Bits := b }) = some (if ((b = (9223372036854775808 : UInt64)) ∨ ((18437736874454810624 : UInt64) < shl_u64 b 1)) then 3 else 0) := by
  unfold g_value_Check
  dsimp only [GValue.zero]
  refine (if_neg (by decide)).trans ?_
  refine (if_neg (by decide)).trans ?_
  rw [letO_eq]
  refine (if_neg (by simp)).trans ?_
  rw [if_neg (show ¬ (3 : Int) = 1 by decide), if_pos (show (3 : Int) = 3 from rfl), real_bad, Option.bind_some]
  by_cases h : ((b = (9223372036854775808 : UInt64)) ∨ ((18437736874454810624 : UInt64) < shl_u64 b 1))
  · rw [if_pos (decide_eq_true h), if_pos h]; rfl
  · rw [if_neg (by rw [decide_eq_false h]; decide), if_neg h]; rfl
theorem tokT {K I : Int} {T : List UInt8} {B : UInt64} : ((⟨K, T, I, B⟩ : GToken) ≠ { { GToken.zero with Kind := K } with Text := T }) ↔ ¬ (I = 0 ∧ B = 0) := by
  rw [Ne, GToken.mk.injEq]
  simp [GToken.zero]
theorem tokI {K I : Int} {T : List UInt8} {B : UInt64} : ((⟨K, T, I, B⟩ : GToken) ≠ { { GToken.zero with Kind := K } with Int_ := I }) ↔ ¬ (T = [] ∧ B = 0) := by
  rw [Ne, GToken.mk.injEq]
  simp [GToken.zero]
theorem tokB {K I : Int} {T : List UInt8} {B : UInt64} : ((⟨K, T, I, B⟩ : GToken) ≠ { { GToken.zero with Kind := K } with Bits := B }) ↔ ¬ (T = [] ∧ I = 0) := by
  rw [Ne, GToken.mk.injEq]
  simp [GToken.zero]
/-- What is wrong: too long; not in form. -/
def wrong (long ok : Prop) [Decidable long] [Decidable ok] : Int := if long then 1 else if ok then 0 else 3
theorem wrong_r {long : Prop} [Decidable long] {b : Bool} {q w : Prop} [Decidable q] [Decidable w] (hq : q ↔ ¬ w) : (if long then some (1 : Int) else (if ((!b) = true) ∨ q then some (3 : Int) else some (0 : Int))) = some (wrong long (b = true ∧ w)) := by
  unfold wrong
  by_cases hl : long
  · rw [if_pos hl, if_pos hl]
  · rw [if_neg hl, if_neg hl]
    by_cases hw : w
    · cases b with
      | true => rw [if_neg (by rw [hq]; simp [hw]), if_pos ⟨rfl, hw⟩]
      | false => rw [if_pos (.inl rfl), if_neg (by simp)]
    · rw [if_pos (.inr (hq.2 hw)), if_neg (fun h => hw h.2)]
theorem wrong_l {long : Prop} [Decidable long] {b b1 b2 : Bool} {w : Prop} [Decidable w] (h1 : b1 = true ↔ long) (h2 : b2 = true ↔ ¬ w) : (if b1 = true then some (1 : Int) else (if b2 = true then some (3 : Int) else ((some b : Option Bool).bind fun j'3 => (if (!j'3) = true then some (3 : Int) else some (0 : Int))))) = some (wrong long (b = true ∧ w)) := by
  unfold wrong
  by_cases hl : long
  · rw [if_pos (h1.2 hl), if_pos hl]
  · rw [if_neg (fun h => hl (h1.1 h)), if_neg hl]
    by_cases hw : w
    · rw [if_neg (fun h => h2.1 h hw), Option.bind_some]
      cases b with
      | true => rw [if_neg (show ¬ ((!true) = true) by decide), if_pos ⟨rfl, hw⟩]
      | false => rw [if_pos (show (!false) = true from rfl), if_neg (by simp)]
    · rw [if_pos (h2.2 hw), if_neg (fun h => hw h.2)]
theorem tok_eq (t : GToken) (hT : t.Text.length < 9223372036854775807) : ∃ e, g_lex_Check t = some e ∧ g_ref_TokenFault t = some e ∧ (t.Kind = 1 → e = wrong ((t.Text.length : Int) > 8) (isNm t.Text = true ∧ (t.Int_ = 0 ∧ t.Bits = 0))) := by
  obtain ⟨K, T, I, B⟩ := t
  dsimp only at hT ⊢
  unfold g_lex_Check g_ref_TokenFault g_ref_badReal
  dsimp only
  by_cases hK : K < 1 ∨ K > 6
  · refine ⟨2, ?_, ?_, fun h => by omega⟩
    · rw [if_pos hK]
    · rw [if_neg (show ¬ K = 1 by omega), Option.bind_some, decide_eq_false (show ¬ K = 2 by omega), if_neg (by decide), if_neg (show ¬ K = 3 by omega), if_neg (show ¬ K = 4 by omega), if_neg (show ¬ K = 5 by omega), if_neg (show ¬ K = 6 by omega)]
  · rw [if_neg hK, letO_eq, letO_eq]
    have hK6 : K = 1 ∨ K = 2 ∨ K = 3 ∨ K = 4 ∨ K = 5 ∨ K = 6 := by omega
    rcases hK6 with rfl | rfl | rfl | rfl | rfl | rfl
    · refine ⟨wrong ((T.length : Int) > 8) (isNm T = true ∧ (I = 0 ∧ B = 0)), ?_, ?_, fun _ => rfl⟩
      · rw [if_pos (show (1 : Int) = 1 from rfl), nameP_eq T hT]
        exact wrong_l (by simp) (by simp [-not_and, Classical.not_and_iff_not_or_not])
      · rw [if_pos (show (1 : Int) = 1 from rfl), Option.bind_some, if_pos (show decide ((1 : Int) = 1) = true from rfl), isName_eq T hT, Option.bind_some, if_neg (show ¬ (1 : Int) = 2 by decide)]
        exact wrong_r tokT
    · obtain ⟨n, h1, h2⟩ := reach_eq T g_ref_TokenFault_t0 hT (by decide)
      have hg : ∀ c, (g_ref_TokenFault_t0.any fun x => decide (x = c)) = greatB c := fun c => eq_of_beq (u8_all (fun c => (g_ref_TokenFault_t0.any fun x => decide (x = c)) == greatB c) (by decide +kernel) c)
      simp only [hg] at h2
      refine ⟨wrong ((T.length : Int) > 8) ((T.all greatB && decide (T ≠ [])) = true ∧ (I = 0 ∧ B = 0)), ?_, ?_, fun h => absurd h (by decide)⟩
      · rw [if_neg (show ¬ (2 : Int) = 1 by decide), if_pos (show (2 : Int) = 2 from rfl), all_great T hT]
        exact wrong_l (by simp) (by simp [-not_and, Classical.not_and_iff_not_or_not])
      · rw [if_neg (show ¬ (2 : Int) = 1 by decide), Option.bind_some, if_pos (show decide ((2 : Int) = 2) = true from rfl), isName_eq T hT, Option.bind_some, if_pos (show (2 : Int) = 2 from rfl)]
        have : ((if T ≠ [] then (g_ref_reach T g_ref_TokenFault_t0).bind fun r'3 => some (decide (r'3 = (T.length : Int))) else some false)) = some (T.all greatB && decide (T ≠ [])) := by
          by_cases h0 : T = []
          · rw [if_neg (by simp [h0]), decide_eq_false (by simp [h0]), Bool.and_false]
          · rw [if_pos h0, h1, Option.bind_some, decide_eq_true h0, Bool.and_true]
            congr 1
            by_cases h4 : T.all greatB = true
            · have h5 := h2.2 h4
              rw [h4, decide_eq_true (by omega)]
            · have h5 : n ≠ T.length := fun h => h4 (h2.1 h)
              rw [Bool.eq_false_iff.2 h4, decide_eq_false (by omega)]
        rw [this, Option.bind_some]
        exact wrong_r tokT
    · refine ⟨wrong False (decide (I ≥ 0) = true ∧ (T = [] ∧ B = 0)), ?_, ?_, fun h => absurd h (by decide)⟩
      · rw [if_neg (show ¬ (3 : Int) = 1 by decide), if_neg (show ¬ (3 : Int) = 2 by decide), if_pos (show (3 : Int) = 3 from rfl)]
        exact wrong_l (by simp) (by simp [-not_and, Classical.not_and_iff_not_or_not, or_comm])
      · rw [if_neg (show ¬ (3 : Int) = 1 by decide), Option.bind_some, if_neg (show ¬ (decide ((3 : Int) = 2) = true) by decide), if_pos (show (3 : Int) = 3 from rfl), if_neg (show ¬ (false = true) by decide)]
        unfold wrong
        rw [if_neg (fun h : False => h)]
        have hq := tokI (K := 3) (I := I) (T := T) (B := B)
        by_cases h1 : I ≥ 0
        · by_cases hw : T = [] ∧ B = 0
          · rw [if_neg (by rw [hq]; simp [h1, hw]), if_pos ⟨decide_eq_true h1, hw⟩]
          · rw [if_pos (.inr (hq.2 hw)), if_neg (fun h => hw h.2)]
        · rw [if_pos (.inl h1), if_neg (fun h => h1 (of_decide_eq_true h.1))]
    · obtain ⟨vb, hv⟩ := valid_ok T
      refine ⟨wrong ((T.length : Int) > 40) (vb = true ∧ (I = 0 ∧ B = 0)), ?_, ?_, fun h => absurd h (by decide)⟩
      · rw [if_neg (show ¬ (4 : Int) = 1 by decide), if_neg (show ¬ (4 : Int) = 2 by decide), if_neg (show ¬ (4 : Int) = 3 by decide), if_pos (show (4 : Int) = 4 from rfl), hv, Option.bind_some]
        exact wrong_l (by simp) (by simp [-not_and, Classical.not_and_iff_not_or_not])
      · rw [if_neg (show ¬ (4 : Int) = 1 by decide), Option.bind_some, if_neg (show ¬ (decide ((4 : Int) = 2) = true) by decide), if_neg (show ¬ (4 : Int) = 3 by decide), if_pos (show (4 : Int) = 4 from rfl), hv, Option.bind_some]
        exact wrong_r tokT
    · refine ⟨wrong False ((!(decide ((B = (9223372036854775808 : UInt64)) ∨ ((18437736874454810624 : UInt64) < shl_u64 B 1)))) = true ∧ (T = [] ∧ I = 0)), ?_, ?_, fun h => absurd h (by decide)⟩
      · rw [if_neg (show ¬ (5 : Int) = 1 by decide), if_neg (show ¬ (5 : Int) = 2 by decide), if_neg (show ¬ (5 : Int) = 3 by decide), if_neg (show ¬ (5 : Int) = 4 by decide), if_pos (show (5 : Int) = 5 from rfl), check_real, Option.bind_some]
        have e : decide ((if ((B = (9223372036854775808 : UInt64)) ∨ ((18437736874454810624 : UInt64) < shl_u64 B 1)) then (3 : Int) else 0) = 0) = (!(decide ((B = (9223372036854775808 : UInt64)) ∨ ((18437736874454810624 : UInt64) < shl_u64 B 1)))) := by
          by_cases h : ((B = (9223372036854775808 : UInt64)) ∨ ((18437736874454810624 : UInt64) < shl_u64 B 1))
          · rw [if_pos h, decide_eq_true h]; rfl
          · rw [if_neg h, decide_eq_false h]; rfl
        rw [e]
        exact wrong_l (by simp) (by simp [-not_and, Classical.not_and_iff_not_or_not, or_comm])
      · rw [if_neg (show ¬ (5 : Int) = 1 by decide), Option.bind_some, if_neg (show ¬ (decide ((5 : Int) = 2) = true) by decide), if_neg (show ¬ (5 : Int) = 3 by decide), if_neg (show ¬ (5 : Int) = 4 by decide), if_pos (show (5 : Int) = 5 from rfl), Option.bind_some]
        rw [if_neg (show ¬ (false = true) by decide)]
        have := wrong_r (long := False) (b := !(decide ((B = (9223372036854775808 : UInt64)) ∨ ((18437736874454810624 : UInt64) < shl_u64 B 1)))) (tokB (K := 5) (I := I) (T := T) (B := B))
        rw [if_neg (fun h : False => h)] at this
        exact this
    · refine ⟨wrong False ((signs.any fun x => decide (T = x)) = true ∧ (I = 0 ∧ B = 0)), ?_, ?_, fun h => absurd h (by decide)⟩
      · rw [if_neg (show ¬ (6 : Int) = 1 by decide), if_neg (show ¬ (6 : Int) = 2 by decide), if_neg (show ¬ (6 : Int) = 3 by decide), if_neg (show ¬ (6 : Int) = 4 by decide), if_neg (show ¬ (6 : Int) = 5 by decide), if_pos (show (6 : Int) = 6 from rfl), sign_prog]
        exact wrong_l (by simp) (by simp [-not_and, Classical.not_and_iff_not_or_not])
      · rw [if_neg (show ¬ (6 : Int) = 1 by decide), Option.bind_some, if_neg (show ¬ (decide ((6 : Int) = 2) = true) by decide), if_neg (show ¬ (6 : Int) = 3 by decide), if_neg (show ¬ (6 : Int) = 4 by decide), if_neg (show ¬ (6 : Int) = 5 by decide), if_pos (show (6 : Int) = 6 from rfl), sign_ref, Option.bind_some, if_neg (show ¬ (false = true) by decide)]
        have := wrong_r (long := False) (b := signs.any fun x => decide (T = x)) (tokT (K := 6) (I := I) (T := T) (B := B))
        rw [if_neg (fun h : False => h)] at this
        exact this
end Go.Proofs.YtalnmpfjgiecdaaDoor.VM
