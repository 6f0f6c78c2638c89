/- sameLists: whether two lists of rows of bytes are the same. -/
import Derived.Test.YtaojoppkkmpieaaVmHeavy
import Derived.Test.YtaojoppkkmpieaaFnSameTexts
namespace Go.Proofs.Ytaojoppkkmpieaa.VM
open Go Go.RowKit

theorem sameLists_ac (a b : List (List UInt8)) (hal : a.length ≤ 4611686018427387904) : AC Try.prog 30 [.lists a, .lists b] Heap.empty (fun r _ => r = .bool (a == b)) := by
  refine AC_of_body Try.func30 rfl rfl (Nat.le_of_ble_eq_true rfl) rfl (fun _ hn => ?_)
  refine AW_seq ?_
  refine AW_reg [0] rfl ?_
  refine o_asg rfl rfl (OpsW_nil ?_)  -- t4 := assign(const(bool(false)))
  refine AW_seq ?_
  refine AW_seq ?_
  refine AW_reg [0, 1, 2, 3, 4] rfl ?_
  refine o_move rfl rfl ?_  -- t6 := move(t0)
  refine o_len rfl rfl uLists rfl ?_  -- t7 := call({callee:=builtin(len), args:=[t6], argTypes:=[34]})
  refine o_move rfl rfl ?_  -- t8 := move(t1)
  refine o_len rfl rfl uLists rfl ?_  -- t9 := call({callee:=builtin(len), args:=[t8], argTypes:=[34]})
  refine o_bin rfl rfl rfl rfl rfl (OpsW_nil ?_)  -- t10 := binOp(neq 3 t7 t9 3)
  refine AW_ifne rfl (fun hc => ?_) (fun hc => ?_)  -- t10
  · refine AW_seq ?_
    refine AW_reg [0] rfl ?_
    refine o_asg rfl rfl (OpsW_nil ?_)  -- t4 := assign(const(bool(false)))
    refine AW_ret ⟨_, rfl, ?_⟩
    show AV.bool false = _
    have : (a == b) = false := by
      rw [beq_eq_false_iff_ne]
      rintro rfl
      exact hc rfl
    rw [this]
  · refine AW_skip ?_
    refine AW_seq ?_
    refine AW_seq ?_
    refine AW_reg [0, 1, 2] rfl ?_
    refine o_move rfl rfl ?_  -- t11 := move(t0)
    refine o_len rfl rfl uLists rfl ?_  -- t12 := call({callee:=builtin(len), args:=[t11], argTypes:=[34]})
    refine o_move rfl rfl (OpsW_nil ?_)  -- t13 := move(const(int(i64 0)))
    refine AW_block ?_  -- block 0
    have hab : a.length = b.length := by omega
    refine AW_loopI (α := Nat) (fun i => [(0, .lists a), (1, .lists b), (12, .int a.length), (13, .int i)])
      (fun i h => i ≤ a.length ∧ a.take i = b.take i) (fun i => a.length - i) rfl ⟨0, ⟨Nat.zero_le _, by simp⟩, .same _, .same _, .same _, .same _, trivial⟩ ?_
    rintro i h n ⟨hil, heq⟩ hlt
    refine AW_seq ?_
    refine AW_reg [0] rfl ?_
    refine o_bin rfl rfl rfl rfl rfl (OpsW_nil ?_)  -- t14 := binOp(lss 3 t13 t12 3)
    refine AW_seq ?_
    refine AW_if rfl (fun hc2 => ?_) (fun hc2 => ?_)  -- t14
    · have hi : i < a.length := by omega
      have hi' : i < b.length := by omega
      refine AW_skip ?_
      refine AW_seq ?_
      refine AW_block ?_  -- block 1
      refine AW_seq ?_
      refine AW_reg [0, 1] rfl ?_
      refine o_move rfl rfl ?_  -- t15 := move(t13)
      refine o_asg rfl rfl (OpsW_nil ?_)  -- t5 := assign(t15)
      refine AW_seq ?_
      refine AW_draw [(0, .lists a), (5, .int i), (1, .lists b), (12, .int a.length), (13, .int i)] (fun k => ([none, none, none, none, none, none, none, none, none, none, none] : List (Option Nat)).getD k none)
        (fun k => ([.lists a, .int i, .rptr (a.map .bytes) (i * 1), .bytes a[i], .txt a[i], .lists b, .int i, .rptr (b.map .bytes) (i * 1), .bytes b[i], .txt b[i], .bool (!(a[i] == b[i]))] : List AV).getD k .any)
        (fun k => ([[(0, none)], [(5, none)], [(16, some 0), (17, some 1)], [(18, some 2)], [(19, some 3)], [(1, none)], [(5, none)], [(21, some 5), (22, some 6)], [(23, some 7)], [(24, some 8)], [(20, some 4), (25, some 9)]] : List (List (Nat × Option Nat))).getD k [])
        [(26, some 10), (0, none), (1, none), (12, none), (13, none)]
        (fun D e h => True) rfl mixed (by kernel_rfl) ⟨rfl, rfl, rfl, rfl, rfl, trivial⟩ hlt trivial (a_op ?_ (a_op ?_ (a_op ?_ (a_op ?_ (a_op ?_ (a_op ?_ (a_op ?_ (a_op ?_ (a_op ?_ (a_op ?_ (a_op ?_ (a_nil)))))))))))) ?_
      · exact fun D e h n hD hdep hH hlt => w_move rfl ⟨_, h, n, rfl, rfl, hH, hlt⟩
      · exact fun D e h n hD hdep hH hlt => w_move rfl ⟨_, h, n, rfl, rfl, hH, hlt⟩
      · exact fun D e h n hD hdep hH hlt => w_ixl rfl uLists zBytes rfl rfl rfl hi (map_ne hi) ⟨_, h, n, rfl, rfl, hH, hlt⟩
      · exact fun D e h n hD hdep hH hlt => w_ld (c := .bytes a[i]) rfl uBytes rfl rfl (map_at hi) ⟨_, h, n, rfl, rfl, hH, hlt⟩
      · exact fun D e h n hD hdep hH hlt => w_cb (bs := a[i]) rfl uBytes uByte uStr rfl ⟨_, h, n, rfl, rfl, hH, hlt⟩
      · exact fun D e h n hD hdep hH hlt => w_move rfl ⟨_, h, n, rfl, rfl, hH, hlt⟩
      · exact fun D e h n hD hdep hH hlt => w_move rfl ⟨_, h, n, rfl, rfl, hH, hlt⟩
      · exact fun D e h n hD hdep hH hlt => w_ixl rfl uLists zBytes rfl rfl rfl hi' (map_ne hi') ⟨_, h, n, rfl, rfl, hH, hlt⟩
      · exact fun D e h n hD hdep hH hlt => w_ld (c := .bytes b[i]) rfl uBytes rfl rfl (map_at hi') ⟨_, h, n, rfl, rfl, hH, hlt⟩
      · exact fun D e h n hD hdep hH hlt => w_cb (bs := b[i]) rfl uBytes uByte uStr rfl ⟨_, h, n, rfl, rfl, hH, hlt⟩
      · exact fun D e h n hD hdep hH hlt => w_sne rfl rfl rfl ⟨_, h, n, rfl, rfl, hH, hlt⟩
      rintro e h n hH hlt
      refine AW_cond (b := !(a[i] == b[i])) rfl (fun hc => ?_) (fun hc => ?_)  -- t24
      · refine AW_seq ?_
        refine AW_reg [0] rfl ?_
        refine o_asg rfl rfl (OpsW_nil ?_)  -- t4 := assign(const(bool(false)))
        refine AW_ret ⟨_, rfl, ?_⟩
        show AV.bool false = _
        have : (a == b) = false := by
          rw [beq_eq_false_iff_ne]
          rintro rfl
          simp at hc
        rw [this]
      · refine AW_skip ?_
        refine AW_reg [0, 1] rfl ?_
        refine o_add rfl rfl rfl rfl (c := ((i + 1 : Nat) : Int)) rfl (by omega) ?_  -- t25 := binOp(add 3 t13 const(int(i64 1)) 3)
        refine o_move rfl rfl (OpsW_nil ?_)  -- t13 := move(t25)
        exact ⟨rfl, i + 1, ⟨hi, take_eq_succ hi hi' heq (by simpa using hc)⟩, by omega, .same _, .same _, .same _, .same _, trivial⟩
    · refine AW_exit ?_
      refine AW_seq ?_
      refine AW_reg [0] rfl ?_
      refine o_asg rfl rfl (OpsW_nil ?_)  -- t4 := assign(const(bool(true)))
      refine AW_ret ⟨_, rfl, ?_⟩
      show AV.bool true = _
      have hie : i = a.length := by omega
      subst hie
      rw [List.take_length, hab, List.take_length] at heq
      rw [heq]
      simp
end Go.Proofs.Ytaojoppkkmpieaa.VM
