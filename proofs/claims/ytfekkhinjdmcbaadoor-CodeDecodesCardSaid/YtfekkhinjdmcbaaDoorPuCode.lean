/- Words and rules that the proof uses. -/
import Derived.Test.YtfekkhinjdmcbaaDoorPuVal2
namespace Go.Proofs.YtfekkhinjdmcbaaDoor.VM
open Go Go.RowKit
def restB9 (b : List UInt8) (fl : UInt8) (k : Nat) : List UInt8 := (b.drop k).map (· ^^^ fl)
theorem rest_len (b : List UInt8) (fl : UInt8) (k : Nat) : (restB9 b fl k).length = b.length - k := by unfold restB9; rw [List.length_map, List.length_drop]
theorem rest_step {b : List UInt8} {fl : UInt8} {k : Nat} (h : k < b.length) : restB9 b fl k = (lrd b k ^^^ fl) :: restB9 b fl (k + 1) := by
 unfold restB9
 rw [drop_step h, List.map_cons]
theorem rest_end {b : List UInt8} {fl : UInt8} {k : Nat} (h : b.length ≤ k) : restB9 b fl k = [] := by
 unfold restB9
 rw [List.drop_eq_nil_of_le h]
 rfl
theorem next_eq {b : List UInt8} {fl : UInt8} {k : Nat} (hb : b.length < 9223372036854775807) (hk : k ≤ b.length) : g_code_Decode_1_i0 (k : Int) b fl = some (match restB9 b fl k with | [] => ((0 : UInt8), false, (k : Int), b, fl) | c :: _ => (c, true, ((k + 1 : Nat) : Int), b, fl)) := by
 unfold g_code_Decode_1_i0
 by_cases h : k < b.length
 ·rw [if_neg (by omega), w64_succ (by omega), w64_id (by omega), rest_step h, show (((k + 1 : Nat) : Int) - 1) = (k : Int) by omega, if_pos (natIn h), Int.toNat_natCast]
 ·have hke : k = b.length := by omega
  subst hke
  rw [if_pos (by omega), rest_end (Nat.le_refl _)]
def txtR : List UInt8 → List UInt8 → Nat → Int ⊕ (List UInt8 × Nat)
 | [], _, _ => .inl 4
 | c :: l, acc, n => if c = 0 then (match l with
   | [] => .inl 4
   | d :: l' => if d = 1 then .inr (acc, n + 2) else if d = 255 then (if acc.length = 40 then .inl 1 else txtR l' (acc ++ [0]) (n + 2)) else .inl 3)
  else if acc.length = 40 then .inl 1 else txtR l (acc ++ [c]) (n + 1)
theorem txtR_nil (acc : List UInt8) (n : Nat) : txtR [] acc n = .inl 4 := by rw [txtR]
theorem txtR_zero (acc : List UInt8) (n : Nat) : txtR [0] acc n = .inl 4 := by rw [txtR, if_pos rfl]
theorem txtR_zero2 (d : UInt8) (l acc : List UInt8) (n : Nat) : txtR (0 :: d :: l) acc n = if d = 1 then .inr (acc, n + 2) else if d = 255 then (if acc.length = 40 then .inl 1 else txtR l (acc ++ [0]) (n + 2)) else .inl 3 := by rw [txtR, if_pos rfl]
theorem txtR_cons (c : UInt8) (l acc : List UInt8) (n : Nat) (h : c ≠ 0) : txtR (c :: l) acc n = if acc.length = 40 then .inl 1 else txtR l (acc ++ [c]) (n + 1) := by
 cases l with
 | nil => conv => lhs; rw [txtR, if_neg h]
 | cons d l => conv => lhs; rw [txtR, if_neg h]
theorem txtR_fact : ∀ (m : Nat) (l acc : List UInt8) (n : Nat), l.length ≤ m → acc.length ≤ 40 → (∃ e, txtR l acc n = .inl e ∧ (e = 1 ∨ e = 3 ∨ e = 4)) ∨ ∃ t p, txtR l acc n = .inr (t, p) ∧ t.length ≤ 40 ∧ n < p ∧ p ≤ n + l.length := by
 intro m
 induction m with
 | zero =>
  intro l acc n hl _
  have : l = [] := List.eq_nil_of_length_eq_zero (by omega)
  subst this
  exact .inl ⟨4, txtR_nil _ _, by omega⟩
 | succ m ih =>
  intro l acc n hl ha
  cases l with
  | nil => exact .inl ⟨4, txtR_nil _ _, by omega⟩
  | cons c l =>
   rw [List.length_cons] at hl
   by_cases hc : c = 0
   ·subst hc
    cases l with
    | nil => exact .inl ⟨4, txtR_zero _ _, by omega⟩
    | cons d l =>
     rw [txtR_zero2]
     rw [List.length_cons] at hl
     by_cases h1 : d = 1
     ·rw [if_pos h1]
      exact .inr ⟨acc, n + 2, rfl, ha, by omega, by rw [List.length_cons, List.length_cons]; omega⟩
     ·rw [if_neg h1]
      by_cases h2 : d = 255
      ·rw [if_pos h2]
       by_cases h3 : acc.length = 40
       ·rw [if_pos h3]; exact .inl ⟨1, rfl, by omega⟩
       ·rw [if_neg h3]
        rcases ih l (acc ++ [0]) (n + 2) (by omega) (by rw [List.length_append, List.length_singleton]; omega) with h | ⟨t, p, h4, h5, h6, h7⟩
        ·exact .inl h
        ·exact .inr ⟨t, p, h4, h5, by omega, by rw [List.length_cons, List.length_cons]; omega⟩
      ·rw [if_neg h2]; exact .inl ⟨3, rfl, by omega⟩
   ·rw [txtR_cons _ _ _ _ hc]
    by_cases h3 : acc.length = 40
    ·rw [if_pos h3]; exact .inl ⟨1, rfl, by omega⟩
    ·rw [if_neg h3]
     rcases ih l (acc ++ [c]) (n + 1) (by omega) (by rw [List.length_append, List.length_singleton]; omega) with h | ⟨t, p, h4, h5, h6, h7⟩
     ·exact .inl h
     ·exact .inr ⟨t, p, h4, h5, by omega, by rw [List.length_cons]; omega⟩
theorem text_loop {b : List UInt8} {fl : UInt8} (hb : b.length < 9223372036854775807) : ∀ (m k : Nat) (k0 n : Nat) (acc : List UInt8), k = k0 + n → b.length - k ≤ m → k ≤ b.length → acc.length ≤ 40 →
  ∃ at' : Int, loopO g_code_text_i0_l0 (acc, (k : Int), b, fl) = some (match txtR (restB9 b fl k) acc n with | .inl e => .inl ([], e, at', b, fl) | .inr r => .inr (r.1, ((k0 + r.2 : Nat) : Int), b, fl)) := by
 intro m
 induction m with
 | zero =>
  intro k k0 n acc h0 hm hk _
  have he : b.length ≤ k := by omega
  refine ⟨(k : Int), ?_⟩
  rw [rest_end he, txtR_nil, loopO_done]
  unfold g_code_text_i0_l0
  dsimp only
  rw [next_eq hb hk, rest_end he, Option.bind_some]
  dsimp only
  rw [if_pos (by decide)]
 | succ m ih =>
  intro k k0 n acc h0 hm hk ha
  by_cases h : k < b.length
  ·rw [rest_step h]
   generalize hc : lrd b k ^^^ fl = c
   have hx := next_eq (fl := fl) hb hk
   rw [rest_step h, hc] at hx
   dsimp only at hx
   by_cases hc0 : c = 0
   ·subst hc0
    by_cases h2 : k + 1 < b.length
    ·have hx2 := next_eq (fl := fl) (k := k + 1) hb (by omega)
     rw [rest_step h2] at hx2 ⊢
     generalize lrd b (k + 1) ^^^ fl = d at hx2 ⊢
     dsimp only at hx2
     rw [txtR_zero2]
     by_cases h3 : d = 1
     ·refine ⟨0, ?_⟩
      rw [if_pos h3, loopO_done (r := .inr (acc, ((k0 + (n + 2) : Nat) : Int), b, fl))]
      unfold g_code_text_i0_l0
      dsimp only
      rw [hx, Option.bind_some]
      dsimp only
      rw [if_neg (by decide), if_pos rfl, hx2, Option.bind_some]
      dsimp only
      rw [if_neg (by decide), if_pos h3]
      simp only [Option.bind_some]
      rw [show k0 + (n + 2) = k + 1 + 1 by omega]
     ·rw [if_neg h3]
      by_cases h4 : d = 255
      ·rw [if_pos h4]
       by_cases h5 : acc.length = 40
       ·refine ⟨((k + 1 + 1 : Nat) : Int), ?_⟩
        rw [if_pos h5, loopO_done]
        unfold g_code_text_i0_l0
        dsimp only
        rw [hx, Option.bind_some]
        dsimp only
        rw [if_neg (by decide), if_pos rfl, hx2, Option.bind_some]
        dsimp only
        rw [if_neg (by decide), if_neg h3, if_neg (fun q => q h4)]
        simp only [Option.bind_some]
        rw [if_pos (by omega)]
       ·rw [if_neg h5]
        obtain ⟨a', hih⟩ := ih (k + 1 + 1) k0 (n + 2) (acc ++ [0]) (by omega) (by omega) (by omega) (by rw [List.length_append, List.length_singleton]; omega)
        refine ⟨a', ?_⟩
        rw [← hih, loopO_next]
        unfold g_code_text_i0_l0
        dsimp only
        rw [hx, Option.bind_some]
        dsimp only
        rw [if_neg (by decide), if_pos rfl, hx2, Option.bind_some]
        dsimp only
        rw [if_neg (by decide), if_neg h3, if_neg (fun q => q h4)]
        simp only [Option.bind_some]
        rw [if_neg (by omega), if_pos (show room _ _ by simp only [room, List.length_cons, List.length_nil]; omega)]
      ·refine ⟨((k + 1 + 1 : Nat) : Int), ?_⟩
       rw [if_neg h4, loopO_done]
       unfold g_code_text_i0_l0
       dsimp only
       rw [hx, Option.bind_some]
       dsimp only
       rw [if_neg (by decide), if_pos rfl, hx2, Option.bind_some]
       dsimp only
       rw [if_neg (by decide), if_neg h3, if_pos h4]
       simp only [Option.bind_some]
    ·have hx2 := next_eq (fl := fl) (k := k + 1) hb (by omega)
     rw [rest_end (show b.length ≤ k + 1 by omega)] at hx2 ⊢
     dsimp only at hx2
     refine ⟨((k + 1 : Nat) : Int), ?_⟩
     rw [txtR_zero, loopO_done]
     unfold g_code_text_i0_l0
     dsimp only
     rw [hx, Option.bind_some]
     dsimp only
     rw [if_neg (by decide), if_pos rfl, hx2, Option.bind_some]
     dsimp only
     rw [if_pos (by decide)]
     simp only [Option.bind_some]
   ·rw [txtR_cons _ _ _ _ hc0]
    by_cases h5 : acc.length = 40
    ·refine ⟨((k + 1 : Nat) : Int), ?_⟩
     rw [if_pos h5, loopO_done]
     unfold g_code_text_i0_l0
     dsimp only
     rw [hx, Option.bind_some]
     dsimp only
     rw [if_neg (by decide), if_neg hc0]
     simp only [Option.bind_some]
     rw [if_pos (by omega)]
    ·rw [if_neg h5]
     obtain ⟨a', hih⟩ := ih (k + 1) k0 (n + 1) (acc ++ [c]) (by omega) (by omega) (by omega) (by rw [List.length_append, List.length_singleton]; omega)
     refine ⟨a', ?_⟩
     rw [← hih, loopO_next]
     unfold g_code_text_i0_l0
     dsimp only
     rw [hx, Option.bind_some]
     dsimp only
     rw [if_neg (by decide), if_neg hc0]
     simp only [Option.bind_some]
     rw [if_neg (by omega), if_pos (show room _ _ by simp only [room, List.length_cons, List.length_nil]; omega)]
  ·have he : b.length ≤ k := by omega
   refine ⟨(k : Int), ?_⟩
   rw [rest_end he, txtR_nil, loopO_done]
   unfold g_code_text_i0_l0
   dsimp only
   rw [next_eq hb hk, rest_end he, Option.bind_some]
   dsimp only
   rw [if_pos (by decide)]
theorem valid_l0_alike : g_utf8_Valid_l0 = g_utf8_ValidString_l0 := rfl
theorem valid_alike (s : List UInt8) : g_utf8_Valid s = g_utf8_ValidString s := by
 unfold g_utf8_Valid g_utf8_ValidString
 rw [if_pos (by omega), valid_l0_alike]
 have : cut s 0 (s.length : Int) = s := by
  show (s.drop 0).take _ = s
  simp
 rw [this]
theorem text_prog {b : List UInt8} {fl : UInt8} {k : Nat} (hb : b.length < 9223372036854775807) (hk : k ≤ b.length) : ∃ at' : Int, g_code_text_i0 (k : Int) b fl = some (match txtR (restB9 b fl k) [] 0 with | .inl e => ([], e, at', b, fl) | .inr r => if g_utf8_ValidString r.1 = some true then (r.1, 0, ((k + r.2 : Nat) : Int), b, fl) else ([], 3, ((k + r.2 : Nat) : Int), b, fl)) := by
 obtain ⟨a', h⟩ := text_loop (fl := fl) hb (b.length - k) k k 0 [] (by omega) (by omega) hk (by decide)
 refine ⟨a', ?_⟩
 unfold g_code_text_i0
 rw [h, Option.bind_some]
 cases txtR (restB9 b fl k) [] 0 with
 | inl e => rfl
 | inr r =>
  dsimp only
  rw [valid_alike]
  obtain ⟨v, hv⟩ := valid_ok r.1
  rw [hv, Option.bind_some]
  cases v with
  | true => rw [if_neg (by decide), if_pos rfl]
  | false => rw [if_pos (by decide), if_neg (by decide)]
noncomputable def fin9 (r : Int ⊕ (List UInt8 × Nat)) : (GValue × Int × Int) ⊕ Unit := match r with
 | .inl e => if e = 4 then .inr () else .inl (GValue.zero, 0, e)
 | .inr r => if g_utf8_ValidString r.1 = some true then .inl ({ { GValue.zero with Kind := (4 : Int) } with Text := r.1 }, ((r.2 + 1 : Nat) : Int), 0) else .inl (GValue.zero, 0, 3)
theorem cut_one {s : List UInt8} {i : Nat} (h : i < s.length) : cut s (i : Int) ((i + 1 : Nat) : Int) = [lrd s i] := by
 show (s.drop (i : Int).toNat).take (((i + 1 : Nat) : Int).toNat - (i : Int).toNat) = _
 rw [Int.toNat_natCast, Int.toNat_natCast, drop_step h, show i + 1 - i = 1 by omega]
 rfl
theorem textOf_loop {s : List UInt8} (hs : s.length < 9223372036854775800) : ∀ (m i : Nat) (t : List UInt8), s.length - i ≤ m → i ≤ s.length → t.length ≤ 40 →
  loopO (g_ref_textOf_l0 s) (t, (i : Int)) = some (fin9 (txtR (s.drop i) t i)) := by
 intro m
 induction m with
 | zero =>
  intro i t hm hi _
  have he : s.length ≤ i := by omega
  rw [List.drop_eq_nil_of_le he, txtR_nil, loopO_done]
  unfold g_ref_textOf_l0
  dsimp only
  rw [if_neg (by omega)]
  rfl
 | succ m ih =>
  intro i t hm hi ht
  by_cases h : i < s.length
  ·have hw1 : w64 ((i : Int) + 1) = ((i + 1 : Nat) : Int) := w64_succ (by omega)
   rw [drop_step h]
   generalize hc : lrd s i = c
   have hstep : g_ref_textOf_l0 s (t, (i : Int)) = g_ref_textOf_l0 s (t, (i : Int)) := rfl
   by_cases hc0 : c = 0
   ·subst hc0
    by_cases h2 : i + 1 < s.length
    ·rw [drop_step h2]
     generalize hd : lrd s (i + 1) = d
     have hw2 : w64 (((i + 1 : Nat) : Int) + 1) = ((i + 2 : Nat) : Int) := w64_succ (by omega)
     rw [txtR_zero2]
     by_cases h3 : d = 1
     ·rw [if_pos h3, loopO_done]
      unfold g_ref_textOf_l0
      dsimp only
      rw [if_pos (natLt h), hw1, if_pos (by omega), cut_one h, hc, if_pos rfl, if_neg (by omega), if_pos (natIn h2), Int.toNat_natCast, hd, if_pos h3]
      obtain ⟨v, hv⟩ := valid_ok t
      rw [hv, Option.bind_some]
      cases v with
      | true =>
       rw [if_neg (by decide)]
       simp only [Option.bind_some]
       unfold fin9
       dsimp only
       rw [if_pos hv, show (((i + 1 : Nat) : Int) + 2) = ((i + 2 : Nat) : Int) + 1 by omega, w64_succ (by omega)]
      | false =>
       rw [if_pos (by decide)]
       simp only [Option.bind_some]
       unfold fin9
       dsimp only
       rw [if_neg (by rw [hv]; decide)]
     ·rw [if_neg h3]
      by_cases h4 : d = 255
      ·rw [if_pos h4]
       have hb : ∀ r, (if (((t ++ [(0 : UInt8)]).length : Nat) : Int) > (40 : Int) then some (.inr (.inl (GValue.zero, (0 : Int), (1 : Int)))) else some (.inl (t ++ [(0 : UInt8)], w64 (((i + 1 : Nat) : Int) + (1 : Int))))) = some r → g_ref_textOf_l0 s (t, (i : Int)) = some r := by
        intro r hr
        unfold g_ref_textOf_l0
        dsimp only
        rw [if_pos (natLt h), hw1, if_pos (by omega), cut_one h, hc, if_pos rfl, if_neg (by omega), if_pos (natIn h2), Int.toNat_natCast, hd, if_neg h3, if_pos (natIn h2), if_neg (fun q => q h4)]
        simp only [Option.bind_some]
        rw [if_pos (by rw [List.length_singleton]; omega)]
        exact hr
       have hl : (t ++ [(0 : UInt8)]).length = t.length + 1 := by rw [List.length_append, List.length_singleton]
       by_cases h5 : t.length = 40
       ·rw [if_pos h5, loopO_done]
        refine hb _ ?_
        rw [if_pos (by omega)]
        rfl
       ·rw [if_neg h5, ← ih (i + 2) (t ++ [0]) (by omega) (by omega) (by omega), loopO_next]
        refine hb _ ?_
        rw [if_neg (by omega), hw2]
      ·rw [if_neg h4, loopO_done]
       unfold g_ref_textOf_l0
       dsimp only
       rw [if_pos (natLt h), hw1, if_pos (by omega), cut_one h, hc, if_pos rfl, if_neg (by omega), if_pos (natIn h2), Int.toNat_natCast, hd, if_neg h3, if_pos (natIn h2), if_pos h4]
       rfl
    ·rw [List.drop_eq_nil_of_le (show s.length ≤ i + 1 by omega), txtR_zero, loopO_done]
     unfold g_ref_textOf_l0
     dsimp only
     rw [if_pos (natLt h), hw1, if_pos (by omega), cut_one h, hc, if_pos rfl, if_pos (by omega)]
     rfl
   ·rw [txtR_cons _ _ _ _ hc0]
    have hb : ∀ r, (if (((t ++ [c]).length : Nat) : Int) > (40 : Int) then some (.inr (.inl (GValue.zero, (0 : Int), (1 : Int)))) else some (.inl (t ++ [c], w64 ((i : Int) + (1 : Int))))) = some r → g_ref_textOf_l0 s (t, (i : Int)) = some r := by
     intro r hr
     unfold g_ref_textOf_l0
     dsimp only
     rw [if_pos (natLt h)]
     rw [hw1] at hr ⊢
     rw [if_pos (by omega), cut_one h, hc, if_neg (fun q => hc0 (by injection q))]
     simp only [Option.bind_some]
     rw [if_pos (by rw [List.length_singleton]; omega), hw1]
     exact hr
    have hl : (t ++ [c]).length = t.length + 1 := by rw [List.length_append, List.length_singleton]
    by_cases h5 : t.length = 40
    ·rw [if_pos h5, loopO_done]
     refine hb _ ?_
     rw [if_pos (by omega)]
     rfl
    ·rw [if_neg h5, ← ih (i + 1) (t ++ [c]) (by omega) (by omega) (by omega), loopO_next]
     refine hb _ ?_
     rw [if_neg (by omega), hw1]
  ·have he : s.length ≤ i := by omega
   rw [List.drop_eq_nil_of_le he, txtR_nil, loopO_done]
   unfold g_ref_textOf_l0
   dsimp only
   rw [if_neg (by omega)]
   rfl
theorem text_ref {s : List UInt8} (hs : s.length < 9223372036854775800) : g_ref_textOf s = some (match txtR s [] 0 with | .inl e => (GValue.zero, 0, e) | .inr r => if g_utf8_ValidString r.1 = some true then ({ { GValue.zero with Kind := (4 : Int) } with Text := r.1 }, ((r.2 + 1 : Nat) : Int), 0) else (GValue.zero, 0, 3)) := by
 unfold g_ref_textOf
 have h := textOf_loop hs s.length 0 [] (by omega) (by omega) (by decide)
 rw [List.drop_zero] at h
 rw [show ((0 : Int)) = ((0 : Nat) : Int) from rfl, h, Option.bind_some]
 rcases txtR_fact s.length s [] 0 (Nat.le_refl _) (by decide) with ⟨e, h1, h2⟩ | ⟨t, p, h1, _⟩
 ·rw [h1]
  unfold fin9
  dsimp only
  by_cases he : e = 4
  ·subst he; rfl
  ·rw [if_neg he]
   rfl
 ·rw [h1]
  unfold fin9
  dsimp only
  by_cases hv : g_utf8_ValidString t = some true
  ·rw [if_pos hv, if_pos hv]
   rfl
  ·rw [if_neg hv, if_neg hv]
   rfl
def stepN (n : UInt64) (c : UInt8) : UInt64 := n * 256 + c.toUInt64
theorem byte_or (n : UInt64) (c : UInt8) : (shl_u64 n 8) ||| c.toUInt64 = stepN n c := by
 unfold stepN
 apply UInt64.toBitVec_inj.1
 show (n.toBitVec <<< 8) ||| c.toUInt64.toBitVec = n.toBitVec * 256#64 + c.toUInt64.toBitVec
 have hc : c.toUInt64.toBitVec = c.toBitVec.setWidth 64 := by
  apply BitVec.eq_of_toNat_eq
  have := c.toNat_lt
  show c.toUInt64.toNat = _
  rw [UInt8.toNat_toUInt64, BitVec.toNat_setWidth]
  show c.toNat = c.toNat % _
  rw [Nat.mod_eq_of_lt (by omega)]
 have hm : n.toBitVec * 256#64 = n.toBitVec <<< 8 := by
  apply BitVec.eq_of_toNat_eq
  rw [BitVec.toNat_mul, BitVec.toNat_shiftLeft, Nat.shiftLeft_eq]
  rfl
 rw [hm, hc]
 refine (BitVec.add_eq_or_of_and_eq_zero _ _ ?_).symm
 ext i hi
 rw [BitVec.getElem_and, BitVec.getElem_shiftLeft, BitVec.getElem_setWidth]
 by_cases h : i < 8
 ·simp [h]
 ·simp [h, BitVec.getLsbD_of_ge _ _ (show 8 ≤ i by omega)]
theorem num_loop {b : List UInt8} {fl : UInt8} (hb : b.length < 9223372036854775807) : ∀ (m j k : Nat) (n : UInt64), m + j = 8 → k ≤ b.length →
  ∃ at' : Int, loopO g_code_read_i0_l0 (n, (j : Int), (k : Int), b, fl) = some (if k + m ≤ b.length then .inr (((restB9 b fl k).take m).foldl stepN n, ((k + m : Nat) : Int), b, fl) else .inl (GValue.zero, 4, at', b, fl)) := by
 intro m
 induction m with
 | zero =>
  intro j k n hj hk
  refine ⟨0, ?_⟩
  rw [if_pos (by omega), loopO_done]
  unfold g_code_read_i0_l0
  dsimp only
  rw [if_neg (by omega)]
  rfl
 | succ m ih =>
  intro j k n hj hk
  by_cases h : k < b.length
  ·obtain ⟨a', hi⟩ := ih (j + 1) (k + 1) (stepN n (lrd b k ^^^ fl)) (by omega) (by omega)
   refine ⟨a', ?_⟩
   have hx := next_eq (fl := fl) hb hk
   rw [rest_step h] at hx ⊢
   dsimp only at hx
   rw [loopO_next (b := (stepN n (lrd b k ^^^ fl), ((j + 1 : Nat) : Int), ((k + 1 : Nat) : Int), b, fl)), hi, List.take_succ_cons, List.foldl_cons, show k + 1 + m = k + (m + 1) by omega]
   unfold g_code_read_i0_l0
   dsimp only
   rw [if_pos (by omega), hx, Option.bind_some]
   dsimp only
   rw [if_neg (by decide), w64_succ (by omega), byte_or]
  ·refine ⟨(k : Int), ?_⟩
   have hx := next_eq (fl := fl) hb hk
   rw [rest_end (show b.length ≤ k by omega)] at hx
   dsimp only at hx
   rw [if_neg (by omega), loopO_done]
   unfold g_code_read_i0_l0
   dsimp only
   rw [if_pos (by omega), hx, Option.bind_some]
   dsimp only
   rw [if_pos (by decide)]
theorem number_eq {s : List UInt8} (hs : s.length < 9223372036854775807) : g_ref_number s = some (s.foldl stepN 0) := by
 unfold g_ref_number
 have := loopO_fold (step := g_ref_number_l0 s) s (fun k n => (n, (k : Int))) stepN id (fun _ _ => True) (fun k n hk _ => ⟨by
  unfold g_ref_number_l0
  dsimp only
  rw [if_pos (natLt hk), if_pos (natIn hk), w64_succ (by omega), Int.toNat_natCast]
  rfl, trivial⟩) (fun n _ => by
  unfold g_ref_number_l0
  dsimp only
  rw [if_neg natNlt]
  rfl) (s := 0) trivial
 rw [show ((0 : Int)) = ((0 : Nat) : Int) from rfl, this]
 rfl
end Go.Proofs.YtfekkhinjdmcbaaDoor.VM
