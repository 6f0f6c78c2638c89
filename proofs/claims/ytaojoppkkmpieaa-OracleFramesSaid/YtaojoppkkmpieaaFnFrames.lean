/- oracle.Frame and ref.FrameOf answer the same. -/
import Derived.Test.YtaojoppkkmpieaaFnFrame
import Derived.Test.YtaojoppkkmpieaaFnSameBytes
namespace Go.Proofs.Ytaojoppkkmpieaa.VM
open Go Go.RowKit

def frameRes (tag : Int) (l : List (List UInt8)) : Int × List UInt8 :=
  if tag < 1 ∨ tag > 9 then (6, []) else if l.length > 8 then (1, []) else if (l.flatMap partB).length + 2 > 16777216 then (1, []) else (0, frameB tag.toNat l)
def FrameR (tag : Int) (l : List (List UInt8)) (r : AV) (h : Heap) : Prop :=
  ∃ v, r = .tup [v, .int (frameRes tag l).1] ∧ Row h v (bcells (frameRes tag l).2) (frameRes tag l).2.length 1

theorem FrameR.bad {tag : Int} {l : List (List UInt8)} {e : Int} {h : Heap} (hf : frameRes tag l = (e, [])) : FrameR tag l (.tup [.nil, .int e]) h := by
  unfold FrameR
  rw [hf]
  exact ⟨.nil, rfl, Row.nil _ _⟩
theorem FrameR.good {tag : Int} {l : List (List UInt8)} {v : AV} {h : Heap} (hf : frameRes tag l = (0, frameB tag.toNat l)) (hr : Row h v (bcells (frameB tag.toNat l)) (frameB tag.toNat l).length 1) : FrameR tag l (.tup [v, .int 0]) h := by
  unfold FrameR
  rw [hf]
  exact ⟨v, rfl, hr⟩
theorem part_min : ∀ (l : List (List UInt8)), 4 * l.length ≤ (l.flatMap partB).length
  | [] => by simp
  | x :: l => by
    have := part_min l
    simp only [List.flatMap_cons, List.length_append, partB, be_len, List.length_cons] at this ⊢
    omega
theorem part_le2 {l : List (List UInt8)} {i : Nat} (h : i < l.length) : ((l.take i).flatMap partB).length + 4 * (l.length - i) + l[i].length ≤ (l.flatMap partB).length := by
  have h1 : l.flatMap partB = (l.take (i + 1)).flatMap partB ++ (l.drop (i + 1)).flatMap partB := by rw [← List.flatMap_append, List.take_append_drop]
  have h2 := part_min (l.drop (i + 1))
  rw [h1, part_take h]
  simp only [List.length_append, partB, be_len, List.length_drop] at h2 ⊢
  omega
theorem part_len {l : List (List UInt8)} {i : Nat} (h : i < l.length) : ((l.take (i + 1)).flatMap partB).length = ((l.take i).flatMap partB).length + 4 + l[i].length := by
  rw [part_take h]
  simp only [List.length_append, partB, be_len]
  omega

set_option maxHeartbeats 4000000 in
theorem Frame_ac (tag : Int) (l : List (List UInt8)) : AC Try.prog 26 [.int tag, .lists l] Heap.empty (FrameR tag l) := by
  refine AC_of_body Try.func26 rfl rfl (Nat.le_of_ble_eq_true rfl) rfl (fun _ hn => ?_)
  refine AW_seq ?_
  refine AW_reg [0, 1] rfl ?_
  refine o_asg rfl rfl ?_  -- t4
  refine o_asg rfl rfl (OpsW_nil ?_)  -- t5
  refine AW_seq ?_
  refine AW_seq ?_
  refine AW_reg [0, 1, 2, 3, 4, 5] rfl ?_
  refine o_move rfl rfl ?_  -- t9
  by_cases h1 : tag < 1
  · refine o_bin (v := .bool true) rfl rfl rfl rfl (by simp [ibin, h1]) ?_  -- t10
    refine o_move rfl rfl ?_  -- t11
    refine o_off rfl rfl rfl (.inl rfl) rfl rfl ?_  -- t12
    refine o_off rfl rfl rfl (.inl rfl) rfl rfl ?_  -- t13
    refine o_pick (v := .bool true) rfl rfl rfl rfl (OpsW_nil ?_)  -- t14
    refine AW_cond (b := true) rfl (fun _ => ?_) (fun hc => by cases hc)
    refine AW_seq ?_
    refine AW_reg [0, 1] rfl ?_
    refine o_asg rfl rfl ?_
    refine o_asg rfl rfl (OpsW_nil ?_)
    exact AW_ret (endR (.tup [.nil, .int 6]) _ rfl rfl (FrameR.bad (by unfold frameRes; rw [if_pos (.inl h1)])))
  refine o_bin (v := .bool false) rfl rfl rfl rfl (by simp [ibin]; omega) ?_  -- t10
  refine o_move rfl rfl ?_  -- t11
  refine o_on rfl rfl rfl rfl rfl (OpW_move rfl ?_)  -- t12
  refine o_on rfl rfl rfl rfl rfl (OpW_ibin rfl rfl rfl rfl ?_)  -- t13
  refine o_pick (v := .bool (decide (tag > 9))) rfl rfl rfl rfl (OpsW_nil ?_)  -- t14
  refine AW_if rfl (fun hc => ?_) (fun hc => ?_)  -- t14
  · refine AW_seq ?_
    refine AW_reg [0, 1] rfl ?_
    refine o_asg rfl rfl ?_
    refine o_asg rfl rfl (OpsW_nil ?_)
    exact AW_ret (endR (.tup [.nil, .int 6]) _ rfl rfl (FrameR.bad (by unfold frameRes; rw [if_pos (.inr hc)])))
  have hno : ¬ (tag < 1 ∨ tag > 9) := by omega
  obtain ⟨tg, rfl⟩ : ∃ k : Nat, tag = k := ⟨tag.toNat, by omega⟩
  refine AW_skip ?_
  refine AW_seq ?_
  refine AW_seq ?_
  refine AW_reg [0, 1, 2] rfl ?_
  refine o_move rfl rfl ?_  -- t15
  refine o_len rfl rfl uLists rfl ?_  -- t16
  refine o_bin rfl rfl rfl rfl rfl (OpsW_nil ?_)  -- t17
  refine AW_if rfl (fun hc8 => ?_) (fun hc8 => ?_)  -- t17
  · refine AW_seq ?_
    refine AW_reg [0, 1] rfl ?_
    refine o_asg rfl rfl ?_
    refine o_asg rfl rfl (OpsW_nil ?_)
    exact AW_ret (endR (.tup [.nil, .int 1]) _ rfl rfl (FrameR.bad (by unfold frameRes; rw [if_neg hno, if_pos (by omega)])))
  have h8 : ¬ l.length > 8 := by omega
  refine AW_skip ?_
  refine AW_seq ?_
  refine AW_reg [0] rfl ?_
  refine o_asg rfl rfl (OpsW_nil ?_)  -- t6
  refine AW_seq ?_
  refine AW_seq ?_
  refine AW_reg [0, 1, 2] rfl ?_
  refine o_move rfl rfl ?_  -- t18
  refine o_len rfl rfl uLists rfl ?_  -- t19
  refine o_move rfl rfl (OpsW_nil ?_)  -- t20
  refine AW_block ?_  -- block 0
  refine AW_loopI (α := Nat) (fun i => [(0, .int tg), (1, .lists l), (6, .int (2 + ((l.take i).flatMap partB).length : Nat)), (18, .lists l), (19, .int l.length), (20, .int i)])
    (fun i h => i ≤ l.length ∧ ((l.take i).flatMap partB).length ≤ i * 16777220) (fun i => l.length - i) (N := 38) rfl ⟨0, ⟨Nat.zero_le _, by simp⟩, .same _, .same _, .same _, .same _, .same _, .same _, trivial⟩ ?_
  rintro i h n ⟨hil, hsum⟩ hlt
  refine AW_seq ?_
  refine AW_reg [0] rfl ?_
  refine o_bin rfl rfl rfl rfl rfl (OpsW_nil ?_)  -- t21
  refine AW_seq ?_
  refine AW_if rfl (fun hc => ?_) (fun hc => ?_)  -- t21
  · have hi : i < l.length := by omega
    have hle := part_le hi
    have hpl := part_len hi
    refine AW_skip ?_
    refine AW_seq ?_
    refine AW_block ?_  -- block 1
    refine AW_seq ?_
    refine AW_reg [0, 1, 2] rfl ?_
    refine o_ixl rfl rfl uLists zBytes rfl rfl rfl hi (map_ne hi) ?_  -- t22
    refine o_ld rfl rfl uBytes rfl rfl (c := .bytes l[i]) (map_at hi) ?_  -- t23
    refine o_asg rfl rfl (OpsW_nil ?_)  -- t8
    refine AW_seq ?_
    refine AW_seq ?_
    refine AW_reg [0, 1, 2] rfl ?_
    refine o_move rfl rfl ?_  -- t24
    refine o_len rfl rfl uBytes rfl ?_  -- t25
    refine o_bin rfl rfl rfl rfl rfl (OpsW_nil ?_)  -- t26
    refine AW_if rfl (fun hg => ?_) (fun hg => ?_)  -- t26
    · refine AW_seq ?_
      refine AW_reg [0, 1] rfl ?_
      refine o_asg rfl rfl ?_
      refine o_asg rfl rfl (OpsW_nil ?_)
      exact AW_ret (endR (.tup [.nil, .int 1]) _ rfl rfl (FrameR.bad (by unfold frameRes; rw [if_neg hno, if_neg h8, if_pos (by omega)])))
    · refine AW_skip ?_
      refine AW_reg [0, 1, 2, 3, 4, 5] rfl ?_
      refine o_move rfl rfl ?_  -- t27
      refine o_move rfl rfl ?_  -- t28
      refine o_len rfl rfl uBytes rfl ?_  -- t29
      refine o_add rfl rfl rfl rfl (c := ((4 + l[i].length : Nat) : Int)) (by omega) (by omega) ?_  -- t30
      refine o_add rfl rfl rfl rfl (c := ((2 + ((l.take (i + 1)).flatMap partB).length : Nat) : Int)) (by omega) (by omega) ?_  -- t31
      refine o_asg rfl rfl (OpsW_nil ?_)  -- t6
      refine AW_reg [0, 1] rfl ?_
      refine o_add rfl rfl rfl rfl (c := ((i + 1 : Nat) : Int)) rfl (by omega) ?_  -- t32
      refine o_move rfl rfl (OpsW_nil ?_)  -- t20
      exact ⟨rfl, i + 1, ⟨hi, by omega⟩, by omega, .same _, .same _, .same _, .same _, .same _, .same _, trivial⟩
  · have hie : i = l.length := by omega
    subst hie
    rw [List.take_length] at hsum
    refine AW_exit ?_  -- exit 0
    refine AW_seq ?_
    refine AW_seq ?_
    refine AW_reg [0, 1] rfl ?_
    refine o_move rfl rfl ?_  -- t33
    refine o_bin rfl rfl rfl rfl rfl (OpsW_nil ?_)  -- t34
    refine AW_if rfl (fun hg => ?_) (fun hg => ?_)  -- t34
    · rw [List.take_length] at hg
      refine AW_seq ?_
      refine AW_reg [0, 1] rfl ?_
      refine o_asg rfl rfl ?_
      refine o_asg rfl rfl (OpsW_nil ?_)
      exact AW_ret (endR (.tup [.nil, .int 1]) _ rfl rfl (FrameR.bad (by unfold frameRes; rw [if_neg hno, if_neg h8, if_pos (by omega)])))
    · rw [List.take_length] at hg
      refine AW_skip ?_
      refine AW_seq ?_
      refine AW_reg [0, 1, 2, 3, 4] rfl ?_
      refine o_move rfl rfl ?_  -- t35
      refine o_move rfl rfl ?_  -- t36
      refine o_callf rfl rfl Try.func37 rfl rfl rfl (frame_ac tg l (by omega) (by omega)) ?_  -- t37
      rintro v hr n1 hR hn1 hk1
      refine o_asg rfl rfl ?_  -- t4
      refine o_asg rfl rfl (OpsW_nil ?_)  -- t5
      exact AW_ret (endR (.tup [v, .int 0]) (h.merge hr) rfl rfl (FrameR.good (by unfold frameRes; rw [if_neg hno, if_neg h8, if_neg (by omega)]) hR.into))

set_option maxHeartbeats 4000000 in
theorem FrameOf_ac (tag : Int) (l : List (List UInt8)) : AC Try.prog 27 [.int tag, .lists l] Heap.empty (FrameR tag l) := by
  refine AC_of_body Try.func27 rfl rfl (Nat.le_of_ble_eq_true rfl) rfl (fun _ hn => ?_)
  refine AW_seq ?_
  refine AW_reg [0, 1] rfl ?_
  refine o_asg rfl rfl ?_  -- t4
  refine o_asg rfl rfl (OpsW_nil ?_)  -- t5
  refine AW_seq ?_
  refine AW_seq ?_
  refine AW_reg [0, 1, 2, 3, 4, 5] rfl ?_
  refine o_move rfl rfl ?_  -- t9
  by_cases h1 : tag < 1
  · refine o_bin (v := .bool true) rfl rfl rfl rfl (by simp [ibin, h1]) ?_  -- t10
    refine o_move rfl rfl ?_  -- t11
    refine o_off rfl rfl rfl (.inl rfl) rfl rfl ?_  -- t12
    refine o_off rfl rfl rfl (.inl rfl) rfl rfl ?_  -- t13
    refine o_pick (v := .bool true) rfl rfl rfl rfl (OpsW_nil ?_)  -- t14
    refine AW_cond (b := true) rfl (fun _ => ?_) (fun hc => by cases hc)
    refine AW_seq ?_
    refine AW_reg [0, 1] rfl ?_
    refine o_asg rfl rfl ?_
    refine o_asg rfl rfl (OpsW_nil ?_)
    exact AW_ret (endR (.tup [.nil, .int 6]) _ rfl rfl (FrameR.bad (by unfold frameRes; rw [if_pos (.inl h1)])))
  refine o_bin (v := .bool false) rfl rfl rfl rfl (by simp [ibin]; omega) ?_  -- t10
  refine o_move rfl rfl ?_  -- t11
  refine o_on rfl rfl rfl rfl rfl (OpW_move rfl ?_)  -- t12
  refine o_on rfl rfl rfl rfl rfl (OpW_ibin rfl rfl rfl rfl ?_)  -- t13
  refine o_pick (v := .bool (decide (tag > 9))) rfl rfl rfl rfl (OpsW_nil ?_)  -- t14
  refine AW_if rfl (fun hc => ?_) (fun hc => ?_)  -- t14
  · refine AW_seq ?_
    refine AW_reg [0, 1] rfl ?_
    refine o_asg rfl rfl ?_
    refine o_asg rfl rfl (OpsW_nil ?_)
    exact AW_ret (endR (.tup [.nil, .int 6]) _ rfl rfl (FrameR.bad (by unfold frameRes; rw [if_pos (.inr hc)])))
  have hno : ¬ (tag < 1 ∨ tag > 9) := by omega
  obtain ⟨tg, rfl⟩ : ∃ k : Nat, tag = k := ⟨tag.toNat, by omega⟩
  refine AW_skip ?_
  refine AW_seq ?_
  refine AW_seq ?_
  refine AW_reg [0, 1, 2] rfl ?_
  refine o_move rfl rfl ?_  -- t15
  refine o_len rfl rfl uLists rfl ?_  -- t16
  refine o_bin rfl rfl rfl rfl rfl (OpsW_nil ?_)  -- t17
  refine AW_if rfl (fun hc8 => ?_) (fun hc8 => ?_)  -- t17
  · refine AW_seq ?_
    refine AW_reg [0, 1] rfl ?_
    refine o_asg rfl rfl ?_
    refine o_asg rfl rfl (OpsW_nil ?_)
    exact AW_ret (endR (.tup [.nil, .int 1]) _ rfl rfl (FrameR.bad (by unfold frameRes; rw [if_neg hno, if_pos (by omega)])))
  have h8 : ¬ l.length > 8 := by omega
  refine AW_skip ?_
  refine AW_seq ?_
  refine AW_reg [0, 1, 2, 3, 4] rfl ?_
  refine o_move rfl rfl ?_  -- t18
  refine o_len rfl rfl uLists rfl ?_  -- t19
  refine o_mul rfl rfl rfl rfl (c := 4 * (l.length : Int)) rfl (by omega) ?_  -- t20
  refine o_sub rfl rfl rfl rfl (c := 16777214 - 4 * (l.length : Int)) rfl (by omega) ?_  -- t21
  refine o_asg rfl rfl (OpsW_nil ?_)  -- t6
  refine AW_seq ?_
  refine AW_seq ?_
  refine AW_reg [0, 1, 2] rfl ?_
  refine o_move rfl rfl ?_  -- t22
  refine o_len rfl rfl uLists rfl ?_  -- t23
  refine o_move rfl rfl (OpsW_nil ?_)  -- t24
  refine AW_block ?_  -- block 0
  refine AW_loopI (α := Nat × Int) (fun p => [(0, .int tg), (1, .lists l), (6, .int p.2), (22, .lists l), (23, .int l.length), (24, .int p.1)])
    (fun p h => p.1 ≤ l.length ∧ 0 ≤ p.2 ∧ p.2 = 16777214 - 4 * ((l.length : Int) - p.1) - ((l.take p.1).flatMap partB).length) (fun p => l.length - p.1) (N := 41) rfl
    ⟨(0, 16777214 - 4 * (l.length : Int)), ⟨Nat.zero_le _, by simp only; omega, by simp⟩, .same _, .same _, .same _, .same _, .same _, .same _, trivial⟩ ?_
  rintro ⟨i, room⟩ h n ⟨hil, hr0, hroom⟩ hlt
  simp only at hil hr0 hroom
  refine AW_seq ?_
  refine AW_reg [0] rfl ?_
  refine o_bin rfl rfl rfl rfl rfl (OpsW_nil ?_)  -- t25
  refine AW_seq ?_
  refine AW_if rfl (fun hc => ?_) (fun hc => ?_)  -- t25
  · simp only at hc
    have hi : i < l.length := by omega
    have hle := part_le2 hi
    have hpl := part_len hi
    refine AW_skip ?_
    refine AW_seq ?_
    refine AW_block ?_  -- block 1
    refine AW_seq ?_
    refine AW_reg [0, 1, 2] rfl ?_
    refine o_ixl rfl rfl uLists zBytes rfl rfl rfl hi (map_ne hi) ?_  -- t26
    refine o_ld rfl rfl uBytes rfl rfl (c := .bytes l[i]) (map_at hi) ?_  -- t27
    refine o_asg rfl rfl (OpsW_nil ?_)  -- t8
    refine AW_seq ?_
    refine AW_seq ?_
    refine AW_reg [0, 1, 2, 3] rfl ?_
    refine o_move rfl rfl ?_  -- t28
    refine o_len rfl rfl uBytes rfl ?_  -- t29
    refine o_move rfl rfl ?_  -- t30
    refine o_bin rfl rfl rfl rfl rfl (OpsW_nil ?_)  -- t31
    refine AW_if rfl (fun hg => ?_) (fun hg => ?_)  -- t31
    · simp only at hg
      refine AW_seq ?_
      refine AW_reg [0, 1] rfl ?_
      refine o_asg rfl rfl ?_
      refine o_asg rfl rfl (OpsW_nil ?_)
      exact AW_ret (endR (.tup [.nil, .int 1]) _ rfl rfl (FrameR.bad (by unfold frameRes; rw [if_neg hno, if_neg h8, if_pos (by omega)])))
    · simp only at hg
      refine AW_skip ?_
      refine AW_reg [0, 1, 2, 3, 4] rfl ?_
      refine o_move rfl rfl ?_  -- t32
      refine o_move rfl rfl ?_  -- t33
      refine o_len rfl rfl uBytes rfl ?_  -- t34
      refine o_sub rfl rfl rfl rfl (c := room - (l[i].length : Int)) rfl (by omega) ?_  -- t35
      refine o_asg rfl rfl (OpsW_nil ?_)  -- t6
      refine AW_reg [0, 1] rfl ?_
      refine o_add rfl rfl rfl rfl (c := ((i + 1 : Nat) : Int)) rfl (by omega) ?_  -- t36
      refine o_move rfl rfl (OpsW_nil ?_)  -- t24
      refine ⟨rfl, (i + 1, room - (l[i].length : Int)), ⟨hi, by simp only; omega, by simp only; omega⟩, ?_, .same _, .same _, .same _, .same _, .same _, .same _, trivial⟩
      show l.length - (i + 1) < l.length - i
      omega
  · simp only at hc
    have hie : i = l.length := by omega
    subst hie
    rw [List.take_length] at hroom
    refine AW_exit ?_  -- exit 0
    refine AW_seq ?_
    refine AW_reg [0, 1, 2, 3, 4, 5] rfl ?_
    refine o_move rfl rfl ?_  -- t37
    refine o_move rfl rfl ?_  -- t38
    refine o_callf rfl rfl Try.func38 rfl rfl rfl (framed_ac tg l (by omega) (by omega)) ?_  -- t39
    rintro _ hr n1 rfl hn1 hk1
    refine o_sb rfl rfl uStr uBytes uByte rfl ?_  -- t40
    intro v2 h2 n2 hr2 hn2 hk2
    refine o_asg rfl rfl ?_  -- t4
    refine o_asg rfl rfl (OpsW_nil ?_)  -- t5
    exact AW_ret (endR (.tup [v2, .int 0]) h2 rfl rfl (FrameR.good (by unfold frameRes; rw [if_neg hno, if_neg h8, if_neg (by omega)]) hr2))

theorem OracleFrames_ac (tag : Int) (l : List (List UInt8)) : AC Try.prog 9 [.int tag, .lists l] Heap.empty (fun r _ => r = .bool true) := by
  refine AC_of_body Try.func9 rfl rfl (Nat.le_of_ble_eq_true rfl) rfl (fun _ hn => ?_)
  refine AW_seq ?_
  refine AW_reg [0] rfl ?_
  refine o_asg rfl rfl (OpsW_nil ?_)
  refine AW_seq ?_
  refine AW_reg [0, 1, 2, 3, 4, 5, 6, 7] rfl ?_
  refine o_move rfl rfl ?_
  refine o_move rfl rfl ?_
  refine o_callf rfl rfl Try.func26 rfl rfl rfl (Frame_ac tag l) ?_
  rintro _ h1 n1 ⟨v1, rfl, hx1⟩ hn1 hk1
  refine o_move rfl rfl ?_
  refine o_ext rfl rfl rfl rfl ?_
  refine o_ext rfl rfl rfl rfl ?_
  refine o_asg rfl rfl ?_
  refine o_asg rfl rfl (OpsW_nil ?_)
  refine AW_seq ?_
  refine AW_reg [0, 1, 2, 3, 4, 5, 6, 7] rfl ?_
  refine o_move rfl rfl ?_
  refine o_move rfl rfl ?_
  refine o_callf rfl rfl Try.func27 rfl rfl rfl (FrameOf_ac tag l) ?_
  rintro _ h2 n2 ⟨v2, rfl, hx2⟩ hn2 hk2
  refine o_move rfl rfl ?_
  refine o_ext rfl rfl rfl rfl ?_
  refine o_ext rfl rfl rfl rfl ?_
  refine o_asg rfl rfl ?_
  refine o_asg rfl rfl (OpsW_nil ?_)
  have qx1 := (hx1.into (h := Heap.empty)).merge hk2
  have qx2 := hx2.into (h := Heap.empty.merge h1)
  refine AW_seq ?_
  refine AW_st (N := 29) [(5, v1), (6, .int (frameRes tag l).1), (7, v2), (8, .int (frameRes tag l).1)] ((Heap.empty.merge h1).merge h2) rfl rfl ⟨rfl, rfl, rfl, rfl, trivial⟩ (fun n3 hn3 => ?_)
  refine AW_reg [0, 1, 2, 3, 4, 5, 6, 7, 8] rfl ?_
  refine o_move rfl rfl ?_
  refine o_move rfl rfl ?_
  refine o_bin (v := .bool true) rfl rfl rfl rfl (by simp [ibin]) ?_
  refine o_move rfl rfl ?_
  refine o_on rfl rfl rfl rfl rfl (OpW_move rfl ?_)
  refine o_on rfl rfl rfl rfl rfl (OpW_move rfl ?_)
  refine o_on rfl rfl rfl rfl rfl (OpW_call (f := 22) (caps := []) (args := [v1, v2]) rfl Try.func22 rfl rfl rfl
    ((sameBytes_ac (frameRes tag l).2 (frameRes tag l).2).lend rfl (lent2 qx1.lent qx2.lent) (fun r hr hh => by rw [hh]; rfl)) rfl ?_)
  rintro _ h4 n4 ⟨hr4, rfl, _, _⟩ _ _ _
  refine o_pick (v := .bool true) rfl rfl rfl (by simp only [beq_self_eq_true]; rfl) ?_
  refine o_asg rfl rfl (OpsW_nil ?_)
  exact AW_ret ⟨_, rfl, rfl⟩
end Go.Proofs.Ytaojoppkkmpieaa.VM
