/- ref.Packed: the same as wire.Pack. -/
import Derived.Test.YtaojoppkkmpieaaFnPack
import Derived.Test.YtaojoppkkmpieaaFnBig
namespace Go.Proofs.Ytaojoppkkmpieaa.VM
open Go Go.RowKit

theorem packT_be {t : List UInt8} : be 2 t.length ++ t = packT t := by
  simp [be, packT]

theorem Packed_ac (l : List (List UInt8)) (hl : l.length ≤ 4611686018427387904) : AC Try.prog 21 [.texts l] Heap.empty
    (fun r h => if packOk l then ∃ v, r = .tup [v, .int 0] ∧ Row h v (bcells (packL l)) (packL l).length 1 else r = .tup [.nil, .int 1]) := by
  refine AC_of_body Try.func21 rfl rfl (Nat.le_of_ble_eq_true rfl) rfl (fun _ hn => ?_)
  refine AW_seq ?_
  refine AW_reg [0, 1] rfl ?_
  refine o_asg rfl rfl ?_  -- t2 := assign(const(slice(none 0 0)))
  refine o_asg rfl rfl (OpsW_nil ?_)  -- t3 := assign(const(int(i64 0)))
  refine AW_seq ?_
  refine AW_seq ?_
  refine AW_reg [0, 1, 2] rfl ?_
  refine o_move rfl rfl ?_  -- t7 := move(t0)
  refine o_len rfl rfl uTexts rfl ?_  -- t8 := call({callee:=builtin(len), args:=[t7], argTypes:=[34]})
  refine o_bin rfl rfl rfl rfl rfl (OpsW_nil ?_)  -- t9 := binOp(gtr 3 t8 const(int(i64 40)) 3)
  refine AW_if rfl (fun hc => ?_) (fun hc => ?_)  -- t9
  · refine AW_seq ?_
    refine AW_reg [0, 1] rfl ?_
    refine o_asg rfl rfl ?_  -- t2 := assign(const(slice(none 0 0)))
    refine o_asg rfl rfl (OpsW_nil ?_)  -- t3 := assign(const(int(i64 1)))
    exact AW_ret ⟨_, rfl, ret_neg (by simp [packOk]; omega) rfl⟩
  · refine AW_skip ?_
    refine AW_seq ?_
    refine AW_reg [0] rfl ?_
    refine o_asg rfl rfl (OpsW_nil ?_)  -- t4 := assign(const(string({data:=[]})))
    refine AW_seq ?_
    refine AW_seq ?_
    refine AW_reg [0, 1, 2] rfl ?_
    refine o_move rfl rfl ?_  -- t10 := move(t0)
    refine o_len rfl rfl uTexts rfl ?_  -- t11 := call({callee:=builtin(len), args:=[t10], argTypes:=[34]})
    refine o_move rfl rfl (OpsW_nil ?_)  -- t12 := move(const(int(i64 0)))
    refine AW_block ?_  -- block 0
    refine AW_loopI (α := Nat) (fun i => [(4, .txt (packL (l.take i))), (10, .texts l), (11, .int l.length), (12, .int i)])
      (fun i h => i ≤ l.length ∧ ∀ t ∈ l.take i, t.length ≤ 300) (fun i => l.length - i) ⟨0, ⟨Nat.zero_le _, by simp⟩, .same _, .same _, .same _, .same _, trivial⟩ ?_
    rintro i h n ⟨hil, h300⟩ hlt
    refine AW_seq ?_
    refine AW_reg [0] rfl ?_
    refine o_bin rfl rfl rfl rfl rfl (OpsW_nil ?_)  -- t13 := binOp(lss 3 t12 t11 3)
    refine AW_seq ?_
    refine AW_if rfl (fun hi => ?_) (fun hi => ?_)  -- t13
    · have hi2 : i < l.length := by omega
      refine AW_skip ?_
      refine AW_seq ?_
      refine AW_block ?_  -- block 1
      refine AW_seq ?_
      refine AW_reg [0, 1, 2] rfl ?_
      refine o_ixl rfl rfl uTexts zStr rfl rfl rfl hi2 (map_ne hi2) ?_  -- t14 := indexAddr(34 t10 t12)
      refine o_ld rfl rfl uStr rfl rfl (map_at hi2) ?_  -- t15 := load(9 t14)
      refine o_asg rfl rfl (OpsW_nil ?_)  -- t6 := assign(t15)
      refine AW_seq ?_
      refine AW_seq ?_
      refine AW_reg [0, 1, 2] rfl ?_
      refine o_move rfl rfl ?_  -- t16 := move(t6)
      refine o_lens rfl rfl uStr rfl ?_  -- t17 := call({callee:=builtin(len), args:=[t16], argTypes:=[9]})
      refine o_bin rfl rfl rfl rfl rfl (OpsW_nil ?_)  -- t18 := binOp(gtr 3 t17 const(int(i64 300)) 3)
      refine AW_if rfl (fun hb => ?_) (fun hb => ?_)  -- t18
      · refine AW_seq ?_
        refine AW_reg [0, 1] rfl ?_
        refine o_asg rfl rfl ?_  -- t2 := assign(const(slice(none 0 0)))
        refine o_asg rfl rfl (OpsW_nil ?_)  -- t3 := assign(const(int(i64 1)))
        have hno : ¬ packOk l = true := by
          simp only [packOk, Bool.and_eq_true, List.all_eq_true, decide_eq_true_eq, not_and]
          intro _ hall
          have := hall _ (List.getElem_mem hi2)
          rw [strB_size] at hb
          omega
        exact AW_ret ⟨_, rfl, ret_neg hno rfl⟩
      · have hb2 : l[i].length ≤ 300 := by
          have : ((strB l[i]).size : Int) = l[i].length := rfl
          omega
        have hpl := packL_len _ h300
        have hpl2 : (l.take i).length ≤ 40 := by rw [List.length_take]; omega
        refine AW_skip ?_
        refine AW_reg [0, 1, 2, 3, 4, 5, 6, 7, 8] rfl ?_
        refine o_move rfl rfl ?_  -- t19 := move(t4)
        refine o_move rfl rfl ?_  -- t20 := move(t6)
        refine o_lens rfl rfl uStr rfl ?_  -- t21 := call({callee:=builtin(len), args:=[t20], argTypes:=[9]})
        refine o_ci rfl rfl uInt uU64 rfl (wrapu (n := l[i].length) (by omega)) ?_  -- t22 := convert(3 55 t21)
        refine o_callf rfl rfl Try.func35 rfl rfl rfl (big_ac l[i].length 2 (by decide)) ?_
        rintro _ hr n1 rfl hn1 hk1
        refine o_move rfl rfl ?_  -- t24 := move(t6)
        refine o_cat rfl rfl rfl rfl (by simp [be_len]; omega) ?_  -- t25 := binOp(add 9 t23 t24 9)
        refine o_cat rfl rfl rfl rfl (by simp [be_len]; omega) ?_  -- t26 := binOp(add 9 t19 t25 9)
        refine o_asg rfl rfl (OpsW_nil ?_)  -- t4 := assign(t26)
        refine AW_reg [0, 1] rfl ?_
        refine o_add rfl rfl rfl rfl (c := ((i + 1 : Nat) : Int)) rfl (by omega) ?_  -- t27 := binOp(add 3 t12 const(int(i64 1)) 3)
        refine o_move rfl rfl (OpsW_nil ?_)  -- t12 := move(t27)
        refine ⟨rfl, i + 1, ⟨hi2, fun t ht => ?_⟩, ?_, ?_, .same _, .same _, .same _, trivial⟩
        · rw [take_snoc hi2] at ht
          rcases List.mem_append.1 ht with h1 | h1
          · exact h300 t h1
          · rw [List.mem_singleton.1 h1]; omega
        · omega
        · rw [packL_take hi2, ← packT_be]
          exact .same _
    · refine AW_exit ?_
      refine AW_seq ?_
      refine AW_reg [0, 1, 2, 3] rfl ?_
      refine o_move rfl rfl ?_  -- t28 := move(t4)
      refine o_sb rfl rfl uStr uBytes uByte rfl ?_
      intro v2 h2 n2 hr2 hn2 hk2  -- t29 := convert(9 35 t28)
      refine o_asg rfl rfl ?_  -- t2 := assign(t29)
      refine o_asg rfl rfl (OpsW_nil ?_)  -- t3 := assign(const(int(i64 0)))
      have hie : i = l.length := by omega
      subst hie
      rw [List.take_length] at h300 hr2
      exact AW_ret ⟨_, rfl, ret_pos (by simp [packOk]; exact ⟨by omega, h300⟩) ⟨v2, rfl, hr2⟩⟩
end Go.Proofs.Ytaojoppkkmpieaa.VM
