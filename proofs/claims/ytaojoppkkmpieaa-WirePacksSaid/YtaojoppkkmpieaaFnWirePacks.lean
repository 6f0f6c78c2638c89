/- WirePacks answers true, whatever it is handed. -/
import Derived.Test.YtaojoppkkmpieaaFnPacked
import Derived.Test.YtaojoppkkmpieaaFnSameBytes
namespace Go.Proofs.Ytaojoppkkmpieaa.VM
open Go Go.RowKit

theorem WirePacks_ac (l : List (List UInt8)) (hl : l.length ≤ 4611686018427387904) : AC Try.prog 7 [.texts l] Heap.empty (fun r _ => r = .bool true) := by
  refine AC_of_body Try.func7 rfl rfl (Nat.le_of_ble_eq_true rfl) rfl (fun n hn => ?_)
  refine AW_seq (AW_reg [0] rfl ?_)
  refine o_asg rfl rfl (OpsW_nil ?_)  -- t2 := assign(const(bool(false)))
  refine AW_seq (AW_reg [0, 1, 2, 3, 4, 5, 6] rfl ?_)
  refine o_move rfl rfl ?_  -- t8 := move(t0)
  refine o_callf rfl rfl Try.func20 rfl rfl rfl (pack_ac l hl) ?_
  rintro r1 hr1 n1 hR1 hn1 hk1
  refine o_move rfl rfl ?_  -- t7 := move(t9)
  by_cases hok : packOk l = true
  · rw [if_pos hok] at hR1
    obtain ⟨v1, rfl, hrow1⟩ := hR1
    refine o_ext rfl rfl rfl rfl ?_  -- t10 := extract(t7 0)
    refine o_ext rfl rfl rfl rfl ?_  -- t11 := extract(t7 1)
    refine o_asg rfl rfl ?_  -- t3 := assign(t10)
    refine o_asg rfl rfl (OpsW_nil ?_)  -- t4 := assign(t11)
    refine AW_seq (AW_reg [0, 1, 2, 3, 4, 5, 6] rfl ?_)
    refine o_move rfl rfl ?_  -- t13 := move(t0)
    refine o_callf rfl rfl Try.func21 rfl rfl rfl (Packed_ac l hl) ?_
    rintro r2 hr2 n2 hR2 hn2 hk2
    rw [if_pos hok] at hR2
    obtain ⟨v2, rfl, hrow2⟩ := hR2
    refine o_move rfl rfl ?_  -- t12 := move(t14)
    refine o_ext rfl rfl rfl rfl ?_  -- t15 := extract(t12 0)
    refine o_ext rfl rfl rfl rfl ?_  -- t16 := extract(t12 1)
    refine o_asg rfl rfl ?_  -- t5 := assign(t15)
    refine o_asg rfl rfl (OpsW_nil ?_)  -- t6 := assign(t16)
    refine AW_seq (AW_reg [0, 1, 2, 3, 4, 5, 6, 7, 8] rfl ?_)
    refine o_move rfl rfl ?_  -- t17 := move(t4)
    refine o_move rfl rfl ?_  -- t18 := move(t6)
    refine o_bin rfl rfl rfl rfl rfl ?_  -- t19 := binOp(eql 23 t17 t18 23)
    refine o_move rfl rfl ?_  -- t20 := move(t19)
    refine o_on rfl rfl rfl rfl rfl (OpW_move rfl ?_)  -- t21 := move(t3)  GUARD some((3, true))
    refine o_on rfl rfl rfl rfl rfl (OpW_move rfl ?_)  -- t22 := move(t5)  GUARD some((3, true))
    have hq1 := (hrow1.into (h := Heap.empty)).merge hk2
    have hq2 := hrow2.into (h := Heap.empty.merge hr1)
    refine o_on rfl rfl rfl rfl rfl (OpW_call (f := 22) (caps := []) (args := [v1, v2]) rfl Try.func22 rfl rfl rfl
      ((sameBytes_ac (packL l) (packL l)).lend rfl (lent2 hq1.lent hq2.lent) (fun r hr hh => by rw [hh]; rfl)) rfl ?_)
    rintro r3 h3 n3 ⟨hr3, rfl, _, _⟩ _ _ _
    refine o_pick rfl rfl rfl rfl ?_
    refine o_asg rfl rfl (OpsW_nil ?_)
    refine AW_ret ⟨_, rfl, ?_⟩
    show AV.bool (packL l == packL l) = _
    simp
  · rw [if_neg hok] at hR1
    subst hR1
    refine o_ext rfl rfl rfl rfl ?_  -- t10 := extract(t7 0)
    refine o_ext rfl rfl rfl rfl ?_  -- t11 := extract(t7 1)
    refine o_asg rfl rfl ?_  -- t3 := assign(t10)
    refine o_asg rfl rfl (OpsW_nil ?_)  -- t4 := assign(t11)
    refine AW_seq (AW_reg [0, 1, 2, 3, 4, 5, 6] rfl ?_)
    refine o_move rfl rfl ?_  -- t13 := move(t0)
    refine o_callf rfl rfl Try.func21 rfl rfl rfl (Packed_ac l hl) ?_
    rintro r2 hr2 n2 hR2 hn2 hk2
    rw [if_neg hok] at hR2
    subst hR2
    refine o_move rfl rfl ?_  -- t12 := move(t14)
    refine o_ext rfl rfl rfl rfl ?_  -- t15 := extract(t12 0)
    refine o_ext rfl rfl rfl rfl ?_  -- t16 := extract(t12 1)
    refine o_asg rfl rfl ?_  -- t5 := assign(t15)
    refine o_asg rfl rfl (OpsW_nil ?_)  -- t6 := assign(t16)
    refine AW_seq (AW_reg [0, 1, 2, 3, 4, 5, 6, 7, 8] rfl ?_)
    refine o_move rfl rfl ?_  -- t17 := move(t4)
    refine o_move rfl rfl ?_  -- t18 := move(t6)
    refine o_bin rfl rfl rfl rfl rfl ?_  -- t19 := binOp(eql 23 t17 t18 23)
    refine o_move rfl rfl ?_  -- t20 := move(t19)
    refine o_on rfl rfl rfl rfl rfl (OpW_move rfl ?_)  -- t21 := move(t3)  GUARD some((3, true))
    refine o_on rfl rfl rfl rfl rfl (OpW_move rfl ?_)  -- t22 := move(t5)  GUARD some((3, true))
    refine o_on rfl rfl rfl rfl rfl (OpW_call (f := 22) (caps := []) (args := [.nil, .nil]) rfl Try.func22 rfl rfl rfl
      ((sameBytes_ac [] []).lend rfl (lent2 .nil .nil) (fun r hr hh => by rw [hh]; rfl)) rfl ?_)
    rintro r3 h3 n3 ⟨hr3, rfl, _, _⟩ _ _ _
    refine o_pick rfl rfl rfl rfl ?_
    refine o_asg rfl rfl (OpsW_nil ?_)
    exact AW_ret ⟨_, rfl, rfl⟩
end Go.Proofs.Ytaojoppkkmpieaa.VM
