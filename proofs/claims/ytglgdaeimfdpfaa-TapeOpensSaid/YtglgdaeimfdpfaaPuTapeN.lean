/- Words and rules that the proof uses. -/
import Derived.Test.YtglgdaeimfdpfaaPuCrc
namespace Go.Proofs.Ytglgdaeimfdpfaa.VM
open Go Go.RowKit
theorem loop_all {τ β : Type} {step : τ → Option (τ ⊕ β)} (n : Nat) (enc : Nat → τ) (p : Nat → Bool) (bad fin : β) (hs : ∀ k, k < n → step (enc k) = some (if p k = true then .inl (enc (k + 1)) else .inr bad)) (he : step (enc n) = some (.inr fin)) :
  loopO step (enc 0) = some (if (List.range n).all p = true then fin else bad) := by
 have key : ∀ m k, k + m = n → loopO step (enc k) = some (if ((List.range m).all fun i => p (k + i)) = true then fin else bad) := by
  intro m
  induction m with
  | zero => intro k hk; rw [show k = n by omega, loopO_done he]; rfl
  | succ m ih =>
   intro k hk
   have h := hs k (by omega)
   by_cases hp : p k = true
   ·rw [if_pos hp] at h
    rw [loopO_next h, ih (k + 1) (by omega), List.range_succ_eq_map, List.all_cons, show p (k + 0) = true from hp, Bool.true_and, List.all_map]
    have : (fun i => p (k + 1 + i)) = (fun i => p (k + i)) ∘ Nat.succ := by
     funext i
     show p (k + 1 + i) = p (k + (i + 1))
     rw [show k + 1 + i = k + (i + 1) by omega]
    rw [this]
   ·rw [if_neg hp] at h
    rw [loopO_done h, List.range_succ_eq_map, List.all_cons, show p (k + 0) = false from Bool.eq_false_iff.2 hp, Bool.false_and, if_neg (by decide)]
 have := key n 0 (by omega)
 simpa using this
def numF (n : Nat) (l : List UInt8) : Nat := l.foldl (fun n c => n * 256 + c.toNat) n
def numN (l : List UInt8) : Nat := numF 0 l
theorem numF_cons (n : Nat) (c : UInt8) (l : List UInt8) : numF n (c :: l) = numF (n * 256 + c.toNat) l := rfl
theorem numN_snoc (l : List UInt8) (c : UInt8) : numN (l ++ [c]) = numN l * 256 + c.toNat := by
 unfold numN numF
 rw [List.foldl_append]
 rfl
theorem numF_lt : ∀ (l : List UInt8) (n : Nat), numF n l < (n + 1) * 256 ^ l.length
 | [], n => by
  show n < (n + 1) * 1
  omega
 | c :: l, n => by
  rw [numF_cons, List.length_cons, Nat.pow_succ, Nat.mul_comm (256 ^ l.length), ← Nat.mul_assoc]
  have hc := c.toNat_lt
  refine Nat.lt_of_lt_of_le (numF_lt l (n * 256 + c.toNat)) (Nat.mul_le_mul_right _ ?_)
  omega
theorem numN_lt (l : List UInt8) : numN l < 256 ^ l.length := by
 have := numF_lt l 0
 rwa [Nat.zero_add, Nat.one_mul] at this
theorem numF_inj : ∀ (l m : List UInt8) (n n' : Nat), l.length = m.length → numF n l = numF n' m → n = n' ∧ l = m
 | [], [], _, _, _, h => ⟨h, rfl⟩
 | [], _ :: _, _, _, h, _ => by cases h
 | _ :: _, [], _, _, h, _ => by cases h
 | c :: l, c' :: m, n, n', hl, h => by
  rw [numF_cons, numF_cons] at h
  obtain ⟨h1, h2⟩ := numF_inj l m _ _ (by simpa using hl) h
  have a := c.toNat_lt
  have b := c'.toNat_lt
  have h3 : c.toNat = c'.toNat := by omega
  exact ⟨by omega, by rw [UInt8.toNat_inj.1 h3, h2]⟩
theorem numN_inj {l m : List UInt8} (hl : l.length = m.length) (h : numN l = numN m) : l = m := (numF_inj l m 0 0 hl h).2
theorem shl_or {n : Nat} (c : UInt8) (hn : n < 1099511627776) : ior (ishl (n : Int) 8) (c.toNat : Int) = ((n * 256 + c.toNat : Nat) : Int) := by
 have hy := c.toNat_lt
 have h1 : ishl (n : Int) 8 = ((256 * n : Nat) : Int) := by
  show w64 ((n : Int) * 2 ^ min 8 64) = _
  rw [show ((2 : Int) ^ min 8 64) = 256 by decide, w64_id (by omega)]
  omega
 rw [h1]
 show w64 (((BitVec.ofInt 64 ((256 * n : Nat) : Int)) ||| (BitVec.ofInt 64 (c.toNat : Int))).toNat : Int) = _
 have e : (((2 : Nat) ^ 64 : Nat) : Int) = 18446744073709551616 := by decide
 have h2 : (BitVec.ofInt 64 ((256 * n : Nat) : Int)).toNat = n <<< 8 := by
  rw [BitVec.toNat_ofInt, Nat.shiftLeft_eq, e]
  omega
 have h3 : (BitVec.ofInt 64 (c.toNat : Int)).toNat = c.toNat := by
  rw [BitVec.toNat_ofInt, e]
  omega
 rw [BitVec.toNat_or, h2, h3, ← Nat.shiftLeft_add_eq_or_of_lt (show c.toNat < 2 ^ 8 from hy), Nat.shiftLeft_eq, w64_id (by omega)]
theorem pow256 {k m : Nat} (h : k ≤ m) : 256 ^ k ≤ 256 ^ m := Nat.pow_le_pow_right (by decide) h
theorem tnum_eq {l : List UInt8} (hl : l.length ≤ 4) : g_tape_number l = some ((numN l : Nat) : Int) := by
 unfold g_tape_number
 obtain ⟨r, h1, h2⟩ := loopO_times (step := g_tape_number_l0 l) l.length (fun k (n : Int) => (n, (k : Int))) (fun k n => n = ((numN (l.take k) : Nat) : Int) ∧ k ≤ l.length) (fun r => r = ((numN l : Nat) : Int)) (fun k n hk ⟨hn, _⟩ => .inl ⟨((numN (l.take (k + 1)) : Nat) : Int), by
  have hlt : numN (l.take k) < 256 ^ 3 := Nat.lt_of_lt_of_le (numN_lt _) (pow256 (by rw [List.length_take]; omega))
  unfold g_tape_number_l0
  dsimp only
  rw [if_pos (natLt hk), if_pos (natIn hk), Int.toNat_natCast, w64_succ (by omega), hn, shl_or _ (Nat.lt_trans hlt (by decide)), take_step hk, numN_snoc], rfl, by omega⟩) (fun n ⟨hn, _⟩ => ⟨n, by
  unfold g_tape_number_l0
  dsimp only
  rw [if_neg natNlt], by rw [hn, List.take_length]⟩) (s := (0 : Int)) ⟨rfl, Nat.zero_le _⟩
 rw [show ((0 : Int), (0 : Int)) = ((0 : Int), ((0 : Nat) : Int)) from rfl, h1, h2]
 rfl
theorem rnum_eq {l : List UInt8} (hl : l.length ≤ 8) : ∃ x : UInt64, g_ref_number l = some x ∧ x.toNat = numN l := by
 unfold g_ref_number
 obtain ⟨r, h1, h2⟩ := loopO_times (step := g_ref_number_l0 l) l.length (fun k (n : UInt64) => (n, (k : Int))) (fun k n => n.toNat = numN (l.take k) ∧ k ≤ l.length) (fun r => r.toNat = numN l) (fun k n hk ⟨hn, _⟩ => .inl ⟨n * 256 + (lrd l k).toUInt64, by
  unfold g_ref_number_l0
  dsimp only
  rw [if_pos (natLt hk), if_pos (natIn hk), Int.toNat_natCast, w64_succ (by omega)], by
  have hlt : numN (l.take k) < 256 ^ 7 := Nat.lt_of_lt_of_le (numN_lt _) (pow256 (by rw [List.length_take]; omega))
  have e7 : (256 : Nat) ^ 7 = 72057594037927936 := by decide
  have hc := (lrd l k).toNat_lt
  rw [take_step hk, numN_snoc, UInt64.toNat_add, UInt64.toNat_mul, UInt8.toNat_toUInt64, hn]
  show (numN (l.take k) * 256 % 18446744073709551616 + (lrd l k).toNat) % 18446744073709551616 = _
  omega, by omega⟩) (fun n ⟨hn, _⟩ => ⟨n, by
  unfold g_ref_number_l0
  dsimp only
  rw [if_neg natNlt], by rw [hn, List.take_length]⟩) (s := (0 : UInt64)) ⟨rfl, Nat.zero_le _⟩
 rw [show ((0 : Int)) = ((0 : Nat) : Int) from rfl, h1]
 exact ⟨r, rfl, h2⟩
end Go.Proofs.Ytglgdaeimfdpfaa.VM
