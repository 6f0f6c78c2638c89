/- Frames and digests. -/
import Derived.Test.YtkaeboabpahemaaDoorPuSha5
namespace Go.Proofs.YtkaeboabpahemaaDoor.VM
open Go Go.RowKit
theorem u64_of (n : Int) : (UInt64.ofInt n).toNat = (n % 18446744073709551616).toNat := by
  unfold UInt64.ofInt
  rw [UInt64.toNat_ofNat']
  have : (2 : Int) ^ 64 = 18446744073709551616 := by decide
  have : (2 : Nat) ^ 64 = 18446744073709551616 := by decide
  omega
theorem u8_of (n : Int) : (UInt8.ofInt n).toNat = (n % 256).toNat := by
  unfold UInt8.ofInt
  rw [UInt8.toNat_ofNat']
  have : (2 : Int) ^ 8 = 256 := by decide
  have : (2 : Nat) ^ 8 = 256 := by decide
  omega
theorem byte_of (n : Int) (k : Nat) (hk : k ≤ 56) : (shr_u64 (UInt64.ofInt n) k).toUInt8 = UInt8.ofInt (n.fdiv (2 ^ k)) := by
  apply UInt8.toNat_inj.1
  rw [UInt64.toNat_toUInt8]
  have e1 : (shr_u64 (UInt64.ofInt n) k).toNat = (n % 18446744073709551616).toNat / 2 ^ k := by
    show ((UInt64.ofInt n).toBitVec >>> k).toNat = _
    rw [BitVec.toNat_ushiftRight, Nat.shiftRight_eq_div_pow]
    show (UInt64.ofInt n).toNat / 2 ^ k = _
    rw [u64_of]
  have e2 : (UInt8.ofInt (n.fdiv (2 ^ k))).toNat = (n.fdiv (2 ^ k) % 256).toNat := u8_of _
  rw [e1, e2, Int.fdiv_eq_ediv_of_nonneg _ (by exact Int.pow_nonneg (by decide))]
  obtain ⟨d, hd⟩ : ∃ d, d + k = 56 := ⟨56 - k, by omega⟩
  have hp : (2 : Int) ^ 56 = 2 ^ d * 2 ^ k := by rw [← Int.pow_add, hd]
  have hk0 : (0 : Int) < 2 ^ k := Int.pow_pos (by decide)
  have hm : n = 2 ^ k * (2 ^ d * (256 * (n / 18446744073709551616))) + n % 18446744073709551616 := by
    have h1 := Int.mul_ediv_add_emod n 18446744073709551616
    have h2 : (18446744073709551616 : Int) = 2 ^ k * (2 ^ d * 256) := by
      rw [← Int.mul_assoc, Int.mul_comm (2 ^ k), ← hp]
      decide
    have h4 : 18446744073709551616 * (n / 18446744073709551616) = 2 ^ k * (2 ^ d * (256 * (n / 18446744073709551616))) := by
      generalize n / 18446744073709551616 = q
      rw [h2]
      simp only [Int.mul_assoc]
    rw [← h4]
    exact h1.symm
  have hq : n / 2 ^ k = 256 * (2 ^ d * (n / 18446744073709551616)) + (n % 18446744073709551616) / 2 ^ k := by
    conv => lhs; rw [hm]
    rw [Int.add_comm, Int.add_mul_ediv_left _ _ (by omega), Int.add_comm]
    congr 1
    rw [← Int.mul_assoc, Int.mul_comm (2 ^ d) 256, Int.mul_assoc]
  rw [hq, Int.mul_add_emod_self_left]
  have h3 : 0 ≤ n % 18446744073709551616 := Int.emod_nonneg _ (by decide)
  obtain ⟨m, hm2⟩ := Int.eq_ofNat_of_zero_le h3
  rw [hm2]
  show (m / 2 ^ k) % 256 = _
  have : ((m : Int) / 2 ^ k) % 256 = (((m / 2 ^ k) % 256 : Nat) : Int) := by
    rw [Int.natCast_emod, Int.natCast_ediv, Int.natCast_pow]
    rfl
  rw [this]
  rfl
theorem four_eq (n : Int) : g_oracle_four n = some (bigL 4 (UInt64.ofInt n)) := by
  unfold g_oracle_four
  rw [letO_eq]
  congr 1
  have h0 : UInt8.ofInt n = (UInt64.ofInt n).toUInt8 := by
    have := byte_of n 0 (by decide)
    rw [show n.fdiv (2 ^ 0) = n by simp] at this
    rw [← this]
    congr 1
  simp only [bigL, shr_shr, List.nil_append, List.cons_append]
  rw [byte_of n 24 (by decide), byte_of n 16 (by decide), byte_of n 8 (by decide), ← h0]
  rfl
/-- The bytes of a frame. -/
def frameL (tag : Int) (parts : List (List UInt8)) : List UInt8 := [UInt8.ofInt tag, UInt8.ofInt (parts.length : Int)] ++ parts.flatMap fun p => bigL 4 (UInt64.ofInt (p.length : Int)) ++ p
def sizes (l : List (List UInt8)) : Nat := (l.map List.length).sum
theorem sizes_step {l : List (List UInt8)} {k : Nat} (hk : k < l.length) : sizes (l.take (k + 1)) = sizes (l.take k) + (lrd l k).length := by
  unfold sizes
  rw [take_step hk]
  simp
theorem sizes_take (l : List (List UInt8)) (k : Nat) : sizes (l.take k) ≤ sizes l := by
  unfold sizes
  conv => rhs; rw [← List.take_append_drop k l]
  rw [List.map_append, List.sum_append]
  omega
theorem frames_len : ∀ (l : List (List UInt8)), (l.flatMap fun p => bigL 4 (UInt64.ofInt (p.length : Int)) ++ p).length = 4 * l.length + sizes l
  | [] => rfl
  | p :: l => by
    rw [List.flatMap_cons, List.length_append, frames_len l, List.length_append, bigL_len]
    simp only [sizes, List.map_cons, List.sum_cons, List.length_cons]
    omega
theorem frameL_len (tag : Int) (l : List (List UInt8)) : (frameL tag l).length = 2 + 4 * l.length + sizes l := by
  unfold frameL
  rw [List.length_append, frames_len]
  simp only [List.length_cons, List.length_nil]
  omega
theorem frame_eq (tag : Int) {l : List (List UInt8)} (hl : l.length ≤ 8) (hs : sizes l ≤ 16777216) : g_oracle_frame tag l = some (frameL tag l) ∧ g_ref_framed tag l = some (frameL tag l) := by
  have gl : ∀ k, ([UInt8.ofInt tag, UInt8.ofInt (l.length : Int)] ++ (l.take k).flatMap fun p => bigL 4 (UInt64.ofInt (p.length : Int)) ++ p).length ≤ 2 + 32 + 16777216 := by
    intro k
    rw [List.length_append, frames_len]
    have := sizes_take l k
    simp only [List.length_cons, List.length_nil, List.length_take]
    omega
  have st : ∀ k, k < l.length → ([UInt8.ofInt tag, UInt8.ofInt (l.length : Int)] ++ (l.take (k + 1)).flatMap fun p => bigL 4 (UInt64.ofInt (p.length : Int)) ++ p) = ([UInt8.ofInt tag, UInt8.ofInt (l.length : Int)] ++ (l.take k).flatMap fun p => bigL 4 (UInt64.ofInt (p.length : Int)) ++ p) ++ (bigL 4 (UInt64.ofInt ((lrd l k).length : Int)) ++ lrd l k) := by
    intro k hk
    rw [take_step hk, List.flatMap_append, ← List.append_assoc]
    congr 1
    simp
  have pl : ∀ k, k < l.length → (lrd l k).length ≤ 16777216 := by
    intro k hk
    have := sizes_step hk
    have := sizes_take l (k + 1)
    omega
  constructor
  · unfold g_oracle_frame
    obtain ⟨r, h1, rfl⟩ := loopO_times (step := g_oracle_frame_l0 l) (σ := List UInt8) l.length (fun k o => ((k : Int), o)) (fun k o => o = [UInt8.ofInt tag, UInt8.ofInt (l.length : Int)] ++ (l.take k).flatMap fun p => bigL 4 (UInt64.ofInt (p.length : Int)) ++ p) (fun r => r = frameL tag l) (fun k o hk ho => by
      subst ho
      have h1 := gl k
      have h2 := pl k hk
      unfold g_oracle_frame_l0
      simp only
      rw [if_pos (natLt hk), if_pos (natIn hk), w64_succ (by omega), Int.toNat_natCast, four_eq, Option.bind_some, if_pos (show room _ _ by simp only [room, bigL_len]; omega), if_pos (show room _ _ by simp only [room]; rw [List.length_append, bigL_len]; omega)]
      exact .inl ⟨_, rfl, by rw [st k hk, List.append_assoc]⟩) (fun o ho => by
      subst ho
      unfold g_oracle_frame_l0
      simp only
      rw [if_neg natNlt]
      exact ⟨_, rfl, by rw [List.take_length]; rfl⟩) (s := [UInt8.ofInt tag, UInt8.ofInt (l.length : Int)]) (by simp)
    rw [show ((0 : Nat) : Int) = 0 from rfl] at h1
    rw [h1]
    rfl
  · unfold g_ref_framed
    obtain ⟨r, h1, rfl⟩ := loopO_times (step := g_ref_framed_l0 l) (σ := List UInt8) l.length (fun k o => (o, (k : Int))) (fun k o => o = [UInt8.ofInt tag, UInt8.ofInt (l.length : Int)] ++ (l.take k).flatMap fun p => bigL 4 (UInt64.ofInt (p.length : Int)) ++ p) (fun r => r = frameL tag l) (fun k o hk ho => by
      subst ho
      have h1 := gl k
      have h2 := pl k hk
      have hb := big_eq (UInt64.ofInt ((lrd l k).length : Int)) 4 (by decide)
      rw [show ((4 : Nat) : Int) = 4 from rfl] at hb
      unfold g_ref_framed_l0
      simp only
      rw [if_pos (natLt hk), if_pos (natIn hk), w64_succ (by omega), Int.toNat_natCast, hb, Option.bind_some, if_pos (by rw [bigL_len]; omega), if_pos (by rw [show (bigL 4 (UInt64.ofInt ((lrd l k).length : Int)) ++ lrd l k).length = 4 + (lrd l k).length by rw [List.length_append, bigL_len]]; omega)]
      exact .inl ⟨_, rfl, (st k hk).symm⟩) (fun o ho => by
      subst ho
      unfold g_ref_framed_l0
      simp only
      rw [if_neg natNlt]
      exact ⟨_, rfl, by rw [List.take_length]; rfl⟩) (s := [UInt8.ofInt tag, UInt8.ofInt (l.length : Int)]) (by simp)
    rw [show ((0 : Nat) : Int) = 0 from rfl] at h1
    rw [h1]
    rfl
open Classical in
/-- What a frame comes to. -/
noncomputable def frameR (tag : Int) (l : List (List UInt8)) : List UInt8 × Int :=
  if tag < 1 ∨ tag > 9 then ([], 6) else if l.length > 8 then ([], 1) else if 2 + 4 * l.length + sizes l > 16777216 then ([], 1) else (frameL tag l, 0)
theorem Frame_eq (tag : Int) (l : List (List UInt8)) : g_oracle_Frame tag l = some (frameR tag l) := by
  unfold g_oracle_Frame frameR
  by_cases ht : tag < 1 ∨ tag > 9
  · rw [if_pos ht, if_pos ht]
  · rw [if_neg ht, if_neg ht]
    by_cases hn : (l.length : Int) > 8
    · rw [if_pos hn, if_pos (by omega)]
    · rw [if_neg hn, if_neg (by omega)]
      obtain ⟨r, h1, h2⟩ := loopO_times (step := g_oracle_Frame_l0 l) (σ := Int) l.length (fun k a => (a, (k : Int))) (fun k a => a = 2 + 4 * (k : Int) + sizes (l.take k) ∧ sizes (l.take k) ≤ 16777216 * k) (fun r => (r = .inl ([], 1) ∧ sizes l > 16777216) ∨ r = .inr (2 + 4 * (l.length : Int) + sizes l)) (fun k a hk ha => by
        obtain ⟨ha, hb⟩ := ha
        unfold g_oracle_Frame_l0
        simp only
        have h3 := sizes_step hk
        have h4 := sizes_take l (k + 1)
        rw [if_pos (natLt hk), if_pos (natIn hk), Int.toNat_natCast]
        by_cases hp : ((lrd l k).length : Int) > 16777216
        · rw [if_pos hp]
          exact .inr ⟨_, rfl, .inl ⟨rfl, by omega⟩⟩
        · rw [if_neg hp, w64_id (n := 4 + _) (by omega), w64_id (by omega), letO_eq, w64_succ (by omega)]
          exact .inl ⟨_, rfl, by omega, by omega⟩) (fun a ha => by
        unfold g_oracle_Frame_l0
        simp only
        rw [if_neg natNlt]
        refine ⟨_, rfl, .inr ?_⟩
        rw [ha.1, List.take_length]) (s := 2) (by simp [sizes])
      rw [show ((0 : Nat) : Int) = 0 from rfl] at h1
      rw [h1]
      rcases h2 with ⟨rfl, h2⟩ | rfl
      · rw [if_pos (by omega)]; rfl
      · simp only [Option.bind_some]
        by_cases hs : 2 + 4 * l.length + sizes l > 16777216
        · rw [if_pos hs, if_pos (by omega)]
        · rw [if_neg hs, if_neg (by omega), (frame_eq tag (by omega) (by omega)).1]; rfl
theorem FrameOf_eq (tag : Int) (l : List (List UInt8)) : g_ref_FrameOf tag l = some (frameR tag l) := by
  unfold g_ref_FrameOf frameR
  by_cases ht : tag < 1 ∨ tag > 9
  · rw [if_pos ht, if_pos ht]
  · rw [if_neg ht, if_neg ht]
    by_cases hn : (l.length : Int) > 8
    · rw [if_pos hn, if_pos (by omega)]
    · rw [if_neg hn, if_neg (by omega)]
      obtain ⟨r, h1, h2⟩ := loopO_times (step := g_ref_FrameOf_l0 l) (σ := Int) l.length (fun k a => (a, (k : Int))) (fun k a => a = 16777214 - 4 * (l.length : Int) - sizes (l.take k) ∧ 0 ≤ a) (fun r => (r = .inl ([], 1) ∧ 2 + 4 * l.length + sizes l > 16777216) ∨ (r = .inr () ∧ 2 + 4 * l.length + sizes l ≤ 16777216)) (fun k a hk ha => by
        obtain ⟨ha, hb⟩ := ha
        unfold g_ref_FrameOf_l0
        simp only
        have h3 := sizes_step hk
        have h4 := sizes_take l (k + 1)
        rw [if_pos (natLt hk), if_pos (natIn hk), Int.toNat_natCast]
        by_cases hp : ((lrd l k).length : Int) > a
        · rw [if_pos hp]
          exact .inr ⟨_, rfl, .inl ⟨rfl, by omega⟩⟩
        · rw [if_neg hp, w64_id (by omega), w64_succ (by omega)]
          exact .inl ⟨_, rfl, by omega, by omega⟩) (fun a ha => by
        unfold g_ref_FrameOf_l0
        simp only
        rw [if_neg natNlt]
        obtain ⟨ha, hb⟩ := ha
        rw [List.take_length] at ha
        exact ⟨_, rfl, .inr ⟨rfl, by omega⟩⟩) (s := w64 (16777214 - w64 (4 * (l.length : Int)))) (by
          rw [w64_id (n := 4 * _) (by omega), w64_id (by omega)]
          simp only [List.take_zero, sizes, List.map_nil, List.sum_nil]
          omega)
      rw [show ((0 : Nat) : Int) = 0 from rfl] at h1
      rw [h1]
      rcases h2 with ⟨rfl, h2⟩ | ⟨rfl, h2⟩
      · rw [if_pos h2]; rfl
      · rw [if_neg (by omega), Option.bind_some]
        simp only
        rw [(frame_eq tag (by omega) (by omega)).2]; rfl
theorem frameR_len (tag : Int) (l : List (List UInt8)) : (frameR tag l).1.length ≤ 16777216 := by
  unfold frameR
  split
  · exact Nat.zero_le _
  · split
    · exact Nat.zero_le _
    · split
      · exact Nat.zero_le _
      · simp only [frameL_len]; omega
/-- Digests. -/
theorem digest_eq (m tag : Int) (l : List (List UInt8)) : ∃ r : List UInt8 × Int, g_oracle_Digest m tag l = some r ∧ g_ref_DigestOf m tag l = some r ∧ r.1.length ≤ 16777216 := by
  unfold g_oracle_Digest g_ref_DigestOf g_ref_badMode
  rw [Frame_eq, FrameOf_eq]
  simp only [Option.bind_some]
  by_cases hm : m ≠ 1 ∧ m ≠ 2
  · rw [if_pos hm, decide_eq_true hm]
    exact ⟨_, rfl, rfl, Nat.zero_le _⟩
  · rw [if_neg hm, decide_eq_false hm]
    simp only [Bool.false_eq_true, if_false]
    have hl := frameR_len tag l
    by_cases hc : (frameR tag l).2 ≠ 0 ∨ m = 2
    · rw [if_pos hc, if_neg (show ¬ ((frameR tag l).2 = 0 ∧ m = 1) by omega)]
      exact ⟨_, rfl, rfl, hl⟩
    · rw [if_neg hc, if_pos (show (frameR tag l).2 = 0 ∧ m = 1 by omega)]
      obtain ⟨v, h1, h2⟩ := sum_eq (frameR tag l).1 (by omega)
      have hv : v.toList.length = 32 := vlen v
      rw [h1, h2, Option.bind_some, Option.bind_some, if_pos (show room _ _ by simp only [room, List.length_nil]; omega)]
      refine ⟨(v.toList, 0), rfl, ?_, by simp only [hv]; decide⟩
      rw [show (frameR tag l).2 = 0 by omega]
      rfl
theorem big1 {n : Int} (h : 0 ≤ n ∧ n < 256) : g_ref_big (UInt64.ofInt n) 1 = some [UInt8.ofInt n] := by
  have hb := big_eq (UInt64.ofInt n) 1 (by decide)
  rw [show ((1 : Nat) : Int) = 1 from rfl] at hb
  rw [hb]
  have h0 : UInt8.ofInt n = (UInt64.ofInt n).toUInt8 := by
    have := byte_of n 0 (by decide)
    rw [show n.fdiv (2 ^ 0) = n by simp] at this
    rw [← this]
    congr 1
  rw [h0]
  rfl
end Go.Proofs.YtkaeboabpahemaaDoor.VM
