/- oracle.four, oracle.frame, ref.framed: parts under a tag, each behind its length. -/
import Derived.Test.YtaojoppkkmpieaaVmHeavy
import Derived.Test.YtaojoppkkmpieaaFnBig
namespace Go.Proofs.Ytaojoppkkmpieaa.VM
open Go Go.RowKit

theorem be4 (n : Nat) : be 4 n = [UInt8.ofNat (n / 16777216), UInt8.ofNat (n / 65536), UInt8.ofNat (n / 256), UInt8.ofNat n] := by simp [be]
theorem be8 (n : Nat) : be 8 n = be 4 (n / 4294967296) ++ be 4 n := by simp [be, Nat.div_div_eq_div_mul]

theorem four_ac (n : Nat) : AC Try.prog 39 [.int n] Heap.empty (fun r h => Row h r (bcells (be 4 n)) 4 1) := by
  refine AC_of_body Try.func39 rfl rfl (Nat.le_of_ble_eq_true rfl) rfl (fun _ hn => ?_)
  refine AW_seq ?_
  refine AW_reg [0] rfl ?_
  refine o_asg rfl rfl (OpsW_nil ?_)  -- t2
  refine AW_seq ?_
  refine AW_reg [0, 1, 2, 3, 4, 5, 6, 7, 8, 9, 10, 11, 12] rfl ?_
  refine o_move rfl rfl ?_  -- t3
  refine o_shift rfl rfl rfl rfl (.inr rfl) (by decide) (c := ((n / 16777216 : Nat) : Int)) (shr_nat n 24 (by decide)) ?_  -- t4
  refine o_ci rfl rfl uInt uByte rfl (wrap8 _) ?_  -- t5
  refine o_move rfl rfl ?_  -- t6
  refine o_shift rfl rfl rfl rfl (.inr rfl) (by decide) (c := ((n / 65536 : Nat) : Int)) (shr_nat n 16 (by decide)) ?_  -- t7
  refine o_ci rfl rfl uInt uByte rfl (wrap8 _) ?_  -- t8
  refine o_move rfl rfl ?_  -- t9
  refine o_shift rfl rfl rfl rfl (.inr rfl) (by decide) (c := ((n / 256 : Nat) : Int)) (shr_nat n 8 (by decide)) ?_  -- t10
  refine o_ci rfl rfl uInt uByte rfl (wrap8 _) ?_  -- t11
  refine o_move rfl rfl ?_  -- t12
  refine o_ci rfl rfl uInt uByte rfl (wrap8 _) ?_  -- t13
  refine o_bs (cs := bcells [UInt8.ofNat (n / 16777216), UInt8.ofNat (n / 65536), UInt8.ofNat (n / 256), UInt8.ofNat n]) rfl rfl uBytes iByte rfl (by kernel_rfl) (by decide) (by decide) rfl rfl ?_  -- t14
  intro v h n1 hr hn hk
  refine o_asg rfl rfl (OpsW_nil ?_)  -- t2
  refine AW_ret (endR v h rfl rfl ?_)
  rw [be4]
  exact hr

def partB (p : List UInt8) : List UInt8 := be 4 p.length ++ p
def frameB (tag : Nat) (parts : List (List UInt8)) : List UInt8 := [UInt8.ofNat tag, UInt8.ofNat parts.length] ++ parts.flatMap partB
theorem part_take {l : List (List UInt8)} {i : Nat} (h : i < l.length) : (l.take (i + 1)).flatMap partB = (l.take i).flatMap partB ++ partB l[i] := by
  rw [take_snoc h]
  simp only [List.flatMap_append, List.flatMap_cons, List.flatMap_nil, List.append_nil]
theorem part_le {l : List (List UInt8)} {i : Nat} (h : i < l.length) : ((l.take i).flatMap partB).length + 4 + l[i].length ≤ (l.flatMap partB).length := by
  have h1 : l.flatMap partB = (l.take (i + 1)).flatMap partB ++ (l.drop (i + 1)).flatMap partB := by rw [← List.flatMap_append, List.take_append_drop]
  rw [h1, part_take h]
  simp only [List.length_append, partB, be_len]
  omega

theorem frame_ac (tag : Nat) (l : List (List UInt8)) (hb : (l.flatMap partB).length ≤ 1073741824) (hl : l.length ≤ 1073741824) : AC Try.prog 37 [.int tag, .lists l] Heap.empty
    (fun r h => Row h r (bcells (frameB tag l)) (frameB tag l).length 1) := by
  refine AC_of_body Try.func37 rfl rfl (Nat.le_of_ble_eq_true rfl) rfl (fun _ hn => ?_)
  refine AW_seq ?_
  refine AW_reg [0] rfl ?_
  refine o_asg rfl rfl (OpsW_nil ?_)  -- t4
  refine AW_seq ?_
  refine AW_reg [0, 1, 2, 3, 4, 5, 6] rfl ?_
  refine o_move rfl rfl ?_  -- t8
  refine o_ci rfl rfl uInt uByte rfl (wrap8 _) ?_  -- t9
  refine o_move rfl rfl ?_  -- t10
  refine o_len rfl rfl uLists rfl ?_  -- t11
  refine o_ci rfl rfl uInt uByte rfl (wrap8 _) ?_  -- t12
  refine o_bs (cs := bcells [UInt8.ofNat tag, UInt8.ofNat l.length]) rfl rfl uBytes iByte rfl (by kernel_rfl) (by decide) (by decide) rfl rfl ?_  -- t13
  intro v0 h0 n0 hr0 hn0 hk0
  refine o_asg rfl rfl (OpsW_nil ?_)  -- t5
  refine AW_seq ?_
  refine AW_seq ?_
  refine AW_reg [0, 1, 2] rfl ?_
  refine o_move rfl rfl ?_  -- t14
  refine o_len rfl rfl uLists rfl ?_  -- t15
  refine o_move rfl rfl (OpsW_nil ?_)  -- t16
  refine AW_block ?_  -- block 0
  refine AW_loopI (α := Nat × AV) (fun p => [(5, p.2), (14, .lists l), (15, .int l.length), (16, .int p.1)])
    (fun p h => Row h p.2 (bcells ([UInt8.ofNat tag, UInt8.ofNat l.length] ++ (l.take p.1).flatMap partB)) (2 + ((l.take p.1).flatMap partB).length) 1 ∧ p.1 ≤ l.length) (fun p => l.length - p.1) (N := 29) rfl
    ⟨(0, v0), ⟨hr0.eqTo (by simp) (by simp), Nat.zero_le _⟩, .same _, .same _, .same _, .same _, trivial⟩ ?_
  rintro ⟨i, v⟩ h n ⟨hrow, hil⟩ hlt
  simp only at hrow hil
  refine AW_seq ?_
  refine AW_reg [0] rfl ?_
  refine o_bin rfl rfl rfl rfl rfl (OpsW_nil ?_)  -- t17
  refine AW_seq ?_
  refine AW_if rfl (fun hc => ?_) (fun hc => ?_)  -- t17
  · have hi : i < l.length := by simp only at hc; omega
    have hle := part_le hi
    refine AW_skip ?_
    refine AW_seq ?_
    refine AW_block ?_  -- block 1
    refine AW_seq ?_
    refine AW_reg [0, 1, 2] rfl ?_
    refine o_ixl rfl rfl uLists zBytes rfl rfl rfl hi (map_ne hi) ?_  -- t18
    refine o_ld rfl rfl uBytes rfl rfl (c := .bytes l[i]) (map_at hi) ?_  -- t19
    refine o_asg rfl rfl (OpsW_nil ?_)  -- t7
    refine AW_reg [0, 1, 2, 3, 4, 5, 6, 7] rfl ?_
    refine o_move rfl rfl ?_  -- t20
    refine o_move rfl rfl ?_  -- t21
    refine o_len rfl rfl uBytes rfl ?_  -- t22
    refine o_callf rfl rfl Try.func39 rfl rfl rfl (four_ac l[i].length) ?_  -- t23
    rintro r hr n1 hR hn1 hk1
    have hq1 := hrow.merge hk1
    have hR1 := hR.into (h := h)
    refine o_app rfl rfl uBytes uBytes iByte rfl hq1 hR1.cont hR1.1 hR1.nostr (by omega) (by omega) ?_  -- t24
    intro v2 h2 n2 hr2 hn2 hk2
    refine o_move rfl rfl ?_  -- t25
    refine o_app rfl rfl uBytes uBytes iByte rfl hr2 (ys := bcells l[i]) (m := l[i].length) rfl (by simp [bcells_length]) (fun _ => AV.noConfusion) (by omega) (by omega) ?_  -- t26
    intro v3 h3 n3 hr3 hn3 hk3
    refine o_asg rfl rfl (OpsW_nil ?_)  -- t5
    refine AW_reg [0, 1] rfl ?_
    refine o_add rfl rfl rfl rfl (c := ((i + 1 : Nat) : Int)) rfl (by omega) ?_  -- t27
    refine o_move rfl rfl (OpsW_nil ?_)  -- t16
    refine ⟨rfl, (i + 1, v3), ⟨hr3.eqTo ?_ ?_, hi⟩, ?_, .same _, .same _, .same _, .same _, trivial⟩
    · rw [part_take hi]
      simp [bcells, partB]
    · rw [part_take hi]
      simp [partB, be_len]
      omega
    · show l.length - (i + 1) < l.length - i
      omega
  · refine AW_exit ?_  -- exit 0
    refine AW_seq ?_
    refine AW_reg [0, 1] rfl ?_
    refine o_move rfl rfl ?_  -- t28
    refine o_asg rfl rfl (OpsW_nil ?_)  -- t4
    refine AW_ret (endR v h rfl rfl ?_)
    have hie : i = l.length := by simp only at hc; omega
    subst hie
    rw [List.take_length] at hrow
    exact hrow.eqTo rfl (by simp [frameB]; omega)

theorem framed_ac (tag : Nat) (l : List (List UInt8)) (hb : (l.flatMap partB).length ≤ 1073741824) (hl : l.length ≤ 1073741824) : AC Try.prog 38 [.int tag, .lists l] Heap.empty
    (fun r _ => r = .txt (frameB tag l)) := by
  refine AC_of_body Try.func38 rfl rfl (Nat.le_of_ble_eq_true rfl) rfl (fun _ hn => ?_)
  refine AW_seq ?_
  refine AW_reg [0] rfl ?_
  refine o_asg rfl rfl (OpsW_nil ?_)  -- t4
  refine AW_seq ?_
  refine AW_reg [0, 1, 2, 3, 4, 5, 6, 7] rfl ?_
  refine o_move rfl rfl ?_  -- t8
  refine o_ci rfl rfl uInt uByte rfl (wrap8 _) ?_  -- t9
  refine o_move rfl rfl ?_  -- t10
  refine o_len rfl rfl uLists rfl ?_  -- t11
  refine o_ci rfl rfl uInt uByte rfl (wrap8 _) ?_  -- t12
  refine o_bs (cs := bcells [UInt8.ofNat tag, UInt8.ofNat l.length]) rfl rfl uBytes iByte rfl (by kernel_rfl) (by decide) (by decide) rfl rfl ?_  -- t13
  intro v0 h0 n0 hr0 hn0 hk0
  refine o_cb (bs := [UInt8.ofNat tag, UInt8.ofNat l.length]) rfl rfl uBytes uByte uStr hr0.cont ?_  -- t14
  refine o_asg rfl rfl (OpsW_nil ?_)  -- t5
  refine AW_seq ?_
  refine AW_seq ?_
  refine AW_reg [0, 1, 2] rfl ?_
  refine o_move rfl rfl ?_  -- t15
  refine o_len rfl rfl uLists rfl ?_  -- t16
  refine o_move rfl rfl (OpsW_nil ?_)  -- t17
  refine AW_block ?_  -- block 0
  refine AW_loopI (α := Nat) (fun i => [(5, .txt ([UInt8.ofNat tag, UInt8.ofNat l.length] ++ (l.take i).flatMap partB)), (15, .lists l), (16, .int l.length), (17, .int i)])
    (fun i h => i ≤ l.length) (fun i => l.length - i) (N := 32) rfl ⟨0, Nat.zero_le _, .same _, .same _, .same _, .same _, trivial⟩ ?_
  rintro i h n hil hlt
  refine AW_seq ?_
  refine AW_reg [0] rfl ?_
  refine o_bin rfl rfl rfl rfl rfl (OpsW_nil ?_)  -- t18
  refine AW_seq ?_
  refine AW_if rfl (fun hc => ?_) (fun hc => ?_)  -- t18
  · have hi : i < l.length := by omega
    have hle := part_le hi
    refine AW_skip ?_
    refine AW_seq ?_
    refine AW_block ?_  -- block 1
    refine AW_seq ?_
    refine AW_reg [0, 1, 2] rfl ?_
    refine o_ixl rfl rfl uLists zBytes rfl rfl rfl hi (map_ne hi) ?_  -- t19
    refine o_ld rfl rfl uBytes rfl rfl (c := .bytes l[i]) (map_at hi) ?_  -- t20
    refine o_asg rfl rfl (OpsW_nil ?_)  -- t7
    refine AW_draw [(5, .txt ([UInt8.ofNat tag, UInt8.ofNat l.length] ++ (l.take i).flatMap partB)), (7, .bytes l[i]), (15, .lists l), (16, .int l.length), (17, .int i)] (fun k => ([none, none, none, none, none, none, none, none, none, none] : List (Option Nat)).getD k none)
      (fun k => ([.txt ([UInt8.ofNat tag, UInt8.ofNat l.length] ++ (l.take i).flatMap partB), .bytes l[i], .int l[i].length, .sc (.int .u64 l[i].length), .txt (be 4 l[i].length), .bytes l[i], .txt l[i], .txt (be 4 l[i].length ++ l[i]), .txt ([UInt8.ofNat tag, UInt8.ofNat l.length] ++ (l.take i).flatMap partB ++ (be 4 l[i].length ++ l[i])), .txt ([UInt8.ofNat tag, UInt8.ofNat l.length] ++ (l.take i).flatMap partB ++ (be 4 l[i].length ++ l[i]))] : List AV).getD k .any)
      (fun k => ([[(5, none)], [(7, none)], [(22, some 1)], [(23, some 2)], [(24, some 3)], [(7, none)], [(26, some 5)], [(25, some 4), (27, some 6)], [(21, some 0), (28, some 7)], [(29, some 8)]] : List (List (Nat × Option Nat))).getD k [])
      [(5, some 9), (15, none), (16, none), (17, none)]
      (fun D e h => True) (N := 32) rfl mixed (by kernel_rfl) ⟨rfl, rfl, rfl, rfl, rfl, trivial⟩ hlt trivial (a_op ?_ (a_op ?_ (a_op ?_ (a_op ?_ (a_op ?_ (a_op ?_ (a_op ?_ (a_op ?_ (a_op ?_ (a_op ?_ (a_nil))))))))))) ?_
    · exact fun D e h n hD hdep hH hlt => w_move rfl ⟨_, h, n, rfl, rfl, hH, hlt⟩  -- t21
    · exact fun D e h n hD hdep hH hlt => w_move rfl ⟨_, h, n, rfl, rfl, hH, hlt⟩  -- t22
    · exact fun D e h n hD hdep hH hlt => w_len rfl uBytes rfl ⟨_, h, n, rfl, rfl, hH, hlt⟩  -- t23
    · exact fun D e h n hD hdep hH hlt => w_ci rfl uInt uU64 rfl (wrapu (n := l[i].length) (by omega)) ⟨_, h, n, rfl, rfl, hH, hlt⟩  -- t24
    · exact fun D e h n hD hdep hH hlt => w_callf rfl Try.func35 rfl rfl rfl (big_ac l[i].length 4 (by decide)) (fun r hr n' hR hlt' hk' => ⟨r, _, n', rfl, hR, trivial, hlt'⟩)  -- t25
    · exact fun D e h n hD hdep hH hlt => w_move rfl ⟨_, h, n, rfl, rfl, hH, hlt⟩  -- t26
    · exact fun D e h n hD hdep hH hlt => w_cb (bs := l[i]) rfl uBytes uByte uStr rfl ⟨_, h, n, rfl, rfl, hH, hlt⟩  -- t27
    · exact fun D e h n hD hdep hH hlt => w_cat rfl rfl rfl (by rw [be_len]; omega) ⟨_, h, n, rfl, rfl, hH, hlt⟩  -- t28
    · exact fun D e h n hD hdep hH hlt => w_cat rfl rfl rfl (by simp only [List.length_append, be_len, List.length_cons, List.length_nil]; omega) ⟨_, h, n, rfl, rfl, hH, hlt⟩  -- t29
    · exact fun D e h n hD hdep hH hlt => w_asg rfl ⟨_, h, n, rfl, rfl, hH, hlt⟩  -- t5
    rintro e h n hH hlt
    refine AW_reg [0, 1] rfl ?_
    refine o_add rfl rfl rfl rfl (c := ((i + 1 : Nat) : Int)) rfl (by omega) ?_  -- t30
    refine o_move rfl rfl (OpsW_nil ?_)  -- t17
    refine ⟨rfl, i + 1, hi, by omega, ?_, .same _, .same _, .same _, trivial⟩
    have e1 : [UInt8.ofNat tag, UInt8.ofNat l.length] ++ (l.take (i + 1)).flatMap partB = [UInt8.ofNat tag, UInt8.ofNat l.length] ++ (l.take i).flatMap partB ++ (be 4 l[i].length ++ l[i]) := by
      rw [part_take hi, ← List.append_assoc]
      rfl
    rw [e1]
    exact .same _
  · refine AW_exit ?_  -- exit 0
    refine AW_seq ?_
    refine AW_reg [0, 1] rfl ?_
    refine o_move rfl rfl ?_  -- t31
    refine o_asg rfl rfl (OpsW_nil ?_)  -- t4
    have hie : i = l.length := by omega
    subst hie
    refine AW_ret ⟨_, rfl, ?_⟩
    show AV.txt ([UInt8.ofNat tag, UInt8.ofNat l.length] ++ (l.take l.length).flatMap partB) = _
    rw [List.take_length]
    rfl
end Go.Proofs.Ytaojoppkkmpieaa.VM
