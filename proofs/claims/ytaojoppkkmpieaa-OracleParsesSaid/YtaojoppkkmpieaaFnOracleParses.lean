/- OracleParses answers true, whatever it is handed. -/
import Derived.Test.YtaojoppkkmpieaaFnParts
import Derived.Test.YtaojoppkkmpieaaFnSameLists
namespace Go.Proofs.Ytaojoppkkmpieaa.VM
open Go Go.RowKit

theorem parseF_len : ∀ (k : Nat) (bs : List UInt8) (ts : List (List UInt8)) (r : List UInt8), parseF k bs = some (ts, r) → ts.length ≤ k
  | 0, bs, ts, r, h => by
    simp only [parseF, Option.some.injEq, Prod.mk.injEq] at h
    rw [← h.1]; simp
  | k + 1, bs, ts, r, h => by
    rw [parseF] at h
    split at h
    · cases h
    · split at h
      · cases h
      · obtain ⟨⟨ts', r'⟩, h1, h2⟩ := Option.map_eq_some_iff.1 h
        simp only [Prod.mk.injEq] at h2
        have := parseF_len k _ ts' r' h1
        rw [← h2.1, List.length_cons]
        omega
theorem parseRes_len (bs : List UInt8) : (parseRes bs).2.1.length ≤ 256 := by
  unfold parseRes
  split
  · simp
  · split
    · simp
    · split
      · simp
      · split
        · simp
        · rename_i c r2 _
          split
          · simp
          · split
            · simp
            · rename_i ps r hf
              have h1 := parseF_len _ _ _ _ hf
              have h2 := c.toNat_lt
              split
              · simp
              · simp only
                omega

theorem OracleParses_ac (b : List UInt8) (hbl : b.length ≤ 4611686018427387904) : AC Try.prog 10 [.bytes b] Heap.empty (fun r _ => r = .bool true) := by
  refine AC_of_body Try.func10 rfl rfl (Nat.le_of_ble_eq_true rfl) rfl (fun _ hn => ?_)
  refine AW_seq ?_
  refine AW_reg [0] rfl ?_
  refine o_asg rfl rfl (OpsW_nil ?_)
  refine AW_seq ?_
  refine AW_reg [0, 1, 2, 3, 4, 5, 6, 7, 8] rfl ?_
  refine o_move rfl rfl ?_
  refine o_callf rfl rfl Try.func28 rfl rfl rfl (Parse_ac b) ?_
  rintro _ h1 n1 ⟨v1, rfl, hx1⟩ hn1 hk1
  refine o_move rfl rfl ?_
  refine o_ext rfl rfl rfl rfl ?_
  refine o_ext rfl rfl rfl rfl ?_
  refine o_ext rfl rfl rfl rfl ?_
  refine o_asg rfl rfl ?_
  refine o_asg rfl rfl ?_
  refine o_asg rfl rfl (OpsW_nil ?_)
  refine AW_seq ?_
  refine AW_reg [0, 1, 2, 3, 4, 5, 6, 7, 8] rfl ?_
  refine o_move rfl rfl ?_
  refine o_callf rfl rfl Try.func29 rfl rfl rfl (PartsOf_ac b hbl) ?_
  rintro _ h2 n2 ⟨v2, rfl, hx2⟩ hn2 hk2
  refine o_move rfl rfl ?_
  refine o_ext rfl rfl rfl rfl ?_
  refine o_ext rfl rfl rfl rfl ?_
  refine o_ext rfl rfl rfl rfl ?_
  refine o_asg rfl rfl ?_
  refine o_asg rfl rfl ?_
  refine o_asg rfl rfl (OpsW_nil ?_)
  have qx1 := (hx1.into (h := Heap.empty)).merge hk2
  have qx2 := hx2.into (h := Heap.empty.merge h1)
  have hlen := parseRes_len b
  refine AW_seq ?_
  refine AW_st (N := 34) [(3, .int (parseRes b).1), (4, v1), (5, .int (parseRes b).2.2), (6, .int (parseRes b).1), (7, v2), (8, .int (parseRes b).2.2)] ((Heap.empty.merge h1).merge h2) rfl rfl ⟨rfl, rfl, rfl, rfl, rfl, rfl, trivial⟩ (fun n3 hn3 => ?_)
  refine AW_reg [0, 1, 2, 3, 4, 5, 6, 7, 8, 9, 10, 11, 12, 13] rfl ?_
  refine o_move rfl rfl ?_
  refine o_move rfl rfl ?_
  refine o_bin (v := .bool true) rfl rfl rfl rfl (by simp [ibin]) ?_
  refine o_move rfl rfl ?_
  refine o_on rfl rfl rfl rfl rfl (OpW_move rfl ?_)
  refine o_on rfl rfl rfl rfl rfl (OpW_move rfl ?_)
  refine o_on rfl rfl rfl rfl rfl (OpW_ibin (v := .bool true) rfl rfl (by simp [ibin]) rfl ?_)
  refine o_pick (v := .bool true) rfl rfl rfl rfl ?_
  refine o_move rfl rfl ?_
  refine o_on rfl rfl rfl rfl rfl (OpW_move rfl ?_)
  refine o_on rfl rfl rfl rfl rfl (OpW_move rfl ?_)
  refine o_on rfl rfl rfl rfl rfl (OpW_call (f := 30) (caps := []) (args := [v1, v2]) rfl Try.func30 rfl rfl rfl
    ((sameLists_ac (parseRes b).2.1 (parseRes b).2.1 (by omega)).lend rfl (lent2 qx1.lent qx2.lent) (fun r hr hh => by rw [hh]; rfl)) rfl ?_)
  rintro _ h4 n4 ⟨hr4, rfl, _, _⟩ _ _ _
  refine o_pick (v := .bool true) rfl rfl rfl (by simp only [beq_self_eq_true]; rfl) ?_
  refine o_asg rfl rfl (OpsW_nil ?_)
  exact AW_ret ⟨_, rfl, rfl⟩
end Go.Proofs.Ytaojoppkkmpieaa.VM
