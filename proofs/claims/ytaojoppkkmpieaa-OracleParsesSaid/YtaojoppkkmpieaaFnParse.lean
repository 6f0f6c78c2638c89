/- oracle.Parse: a frame's tag and parts. -/
import Derived.Test.YtaojoppkkmpieaaVmHeavy
import Derived.Test.YtaojoppkkmpieaaFnNumber
namespace Go.Proofs.Ytaojoppkkmpieaa.VM
open Go Go.RowKit

def parseF : Nat → List UInt8 → Option (List (List UInt8) × List UInt8)
  | 0, bs => some ([], bs)
  | k + 1, bs => if bs.length < 4 then none else if (bs.drop 4).length < num (bs.take 4) then none
    else (parseF k ((bs.drop 4).drop (num (bs.take 4)))).map fun x => ((bs.drop 4).take (num (bs.take 4)) :: x.1, x.2)
def parseRes (bs : List UInt8) : Int × List (List UInt8) × Int :=
  if bs.length > 16777216 then (0, [], 1) else match bs with
    | [] => (0, [], 4)
    | t :: r1 => if t.toNat < 1 ∨ t.toNat > 9 then (0, [], 6) else match r1 with
      | [] => (0, [], 4)
      | c :: r2 => if c.toNat > 8 then (0, [], 1) else match parseF c.toNat r2 with
        | none => (0, [], 4)
        | some (ps, r) => if r.length > 0 then (0, [], 3) else (t.toNat, ps, 0)
def ParseR (bs : List UInt8) (r : AV) (h : Heap) : Prop :=
  ∃ v, r = .tup [.int (parseRes bs).1, v, .int (parseRes bs).2.2] ∧ Row h v ((parseRes bs).2.1.map .bytes) (parseRes bs).2.1.length 1
theorem ParseR.bad {bs : List UInt8} {e : Int} {h : Heap} (hf : parseRes bs = (0, [], e)) : ParseR bs (.tup [.int 0, .nil, .int e]) h := by
  unfold ParseR
  rw [hf]
  exact ⟨.nil, rfl, Row.nil _ _⟩
theorem ParseR.good {bs : List UInt8} {t : Int} {ps : List (List UInt8)} {v : AV} {h : Heap} (hf : parseRes bs = (t, ps, 0)) (hr : Row h v (ps.map .bytes) ps.length 1) : ParseR bs (.tup [.int t, v, .int 0]) h := by
  unfold ParseR
  rw [hf]
  exact ⟨v, rfl, hr⟩

structure ParseP where
  i : Nat
  ps : List (List UInt8)
  bs : List UInt8
  v : AV
def ParseI (c : Nat) (r2 : List UInt8) (p : ParseP) (h : Heap) : Prop :=
  Row h p.v (p.ps.map .bytes) p.ps.length 1 ∧ p.i ≤ c ∧ p.ps.length = p.i ∧ p.bs.length ≤ r2.length ∧ (parseF (c - p.i) p.bs).map (fun x => (p.ps ++ x.1, x.2)) = parseF c r2

set_option maxHeartbeats 4000000 in
theorem Parse_ac (b : List UInt8) : AC Try.prog 28 [.bytes b] Heap.empty (ParseR b) := by
  refine AC_of_body Try.func28 rfl rfl (Nat.le_of_ble_eq_true rfl) rfl (fun _ hn => ?_)
  refine AW_seq ?_
  refine AW_reg [0, 1, 2] rfl ?_
  refine o_asg rfl rfl ?_
  refine o_asg rfl rfl ?_
  refine o_asg rfl rfl (OpsW_nil ?_)
  refine AW_seq ?_
  refine AW_seq ?_
  refine AW_reg [0, 1, 2] rfl ?_
  refine o_move rfl rfl ?_
  refine o_len rfl rfl uBytes rfl ?_
  refine o_bin rfl rfl rfl rfl rfl (OpsW_nil ?_)
  refine AW_if rfl (fun hc => ?_) (fun hc => ?_)  -- t11
  · refine AW_seq ?_
    refine AW_reg [0, 1, 2] rfl ?_
    refine o_asg rfl rfl ?_
    refine o_asg rfl rfl ?_
    refine o_asg rfl rfl (OpsW_nil ?_)
    exact AW_ret (endR (.tup [.int 0, .nil, .int 1]) _ rfl rfl (ParseR.bad (by unfold parseRes; rw [if_pos (by omega)])))
  have hbig : ¬ b.length > 16777216 := by omega
  refine AW_skip ?_
  refine AW_st (N := 87) [(0, .bytes b)] Heap.empty rfl rfl ⟨rfl, trivial⟩ (fun _ hn => ?_)
  refine AW_seq ?_
  refine AW_seq ?_
  refine AW_reg [0, 1, 2] rfl ?_
  refine o_move rfl rfl ?_
  refine o_len rfl rfl uBytes rfl ?_
  refine o_bin rfl rfl rfl rfl rfl (OpsW_nil ?_)
  refine AW_if rfl (fun hc1 => ?_) (fun hc1 => ?_)  -- t14
  · have hnil : b = [] := List.eq_nil_of_length_eq_zero (by omega)
    subst hnil
    refine AW_seq ?_
    refine AW_reg [0, 1, 2] rfl ?_
    refine o_asg rfl rfl ?_
    refine o_asg rfl rfl ?_
    refine o_asg rfl rfl (OpsW_nil ?_)
    exact AW_ret (endR (.tup [.int 0, .nil, .int 4]) _ rfl rfl (ParseR.bad rfl))
  obtain ⟨t, r1, rfl⟩ : ∃ t r1, b = t :: r1 := by
    match b, hc1 with
    | [], h => simp at h
    | t :: r1, _ => exact ⟨t, r1, rfl⟩
  have ht := t.toNat_lt
  refine AW_skip ?_
  refine AW_st (N := 87) [(0, .bytes (t :: r1))] Heap.empty rfl rfl ⟨rfl, trivial⟩ (fun _ hn => ?_)
  refine AW_seq ?_
  refine AW_reg [0, 1, 2, 3, 4] rfl ?_
  refine o_move rfl rfl ?_  -- t15
  refine o_ixl (i' := 0) rfl rfl uBytes zByte rfl rfl rfl (by simp) (bcells_ne (i := 0) (by simp)) ?_  -- t16
  refine o_ld (c := .u8 t.toNat) rfl rfl uByte rfl rfl rfl ?_  -- t17
  refine o_ci rfl rfl uByte uInt rfl (wrapi (n := t.toNat) (by omega)) ?_  -- t18
  refine o_asg rfl rfl (OpsW_nil ?_)  -- t5
  refine AW_seq ?_
  refine AW_seq ?_
  refine AW_reg [0, 1, 2, 3, 4, 5] rfl ?_
  refine o_move rfl rfl ?_  -- t19
  by_cases h1 : t.toNat < 1
  · refine o_bin (v := .bool true) rfl rfl rfl rfl (by simp only [ibin]; rw [decide_eq_true (by omega)]) ?_
    refine o_move rfl rfl ?_
    refine o_off rfl rfl rfl (.inl rfl) rfl rfl ?_
    refine o_off rfl rfl rfl (.inl rfl) rfl rfl ?_
    refine o_pick (v := .bool true) rfl rfl rfl rfl (OpsW_nil ?_)
    refine AW_cond (b := true) rfl (fun _ => ?_) (fun hc => by cases hc)
    refine AW_seq ?_
    refine AW_reg [0, 1, 2] rfl ?_
    refine o_asg rfl rfl ?_
    refine o_asg rfl rfl ?_
    refine o_asg rfl rfl (OpsW_nil ?_)
    exact AW_ret (endR (.tup [.int 0, .nil, .int 6]) _ rfl rfl (ParseR.bad (by unfold parseRes; rw [if_neg hbig]; simp only; rw [if_pos (.inl h1)])))
  refine o_bin (v := .bool false) rfl rfl rfl rfl (by simp only [ibin]; rw [decide_eq_false (by omega)]) ?_
  refine o_move rfl rfl ?_
  refine o_on rfl rfl rfl rfl rfl (OpW_move rfl ?_)
  refine o_on rfl rfl rfl rfl rfl (OpW_ibin rfl rfl rfl rfl ?_)
  refine o_pick (v := .bool (decide ((t.toNat : Int) > 9))) rfl rfl rfl rfl (OpsW_nil ?_)
  refine AW_if rfl (fun hc9 => ?_) (fun hc9 => ?_)  -- t24
  · refine AW_seq ?_
    refine AW_reg [0, 1, 2] rfl ?_
    refine o_asg rfl rfl ?_
    refine o_asg rfl rfl ?_
    refine o_asg rfl rfl (OpsW_nil ?_)
    exact AW_ret (endR (.tup [.int 0, .nil, .int 6]) _ rfl rfl (ParseR.bad (by unfold parseRes; rw [if_neg hbig]; simp only; rw [if_pos (.inr (by omega))])))
  have hno : ¬ (t.toNat < 1 ∨ t.toNat > 9) := by omega
  refine AW_skip ?_
  refine AW_st (N := 87) [(0, .bytes (t :: r1)), (5, .int t.toNat)] Heap.empty rfl rfl ⟨rfl, rfl, trivial⟩ (fun _ hn => ?_)
  refine AW_seq ?_
  refine AW_seq ?_
  refine AW_reg [0, 1, 2] rfl ?_
  refine o_move rfl rfl ?_
  refine o_len rfl rfl uBytes rfl ?_
  refine o_bin rfl rfl rfl rfl rfl (OpsW_nil ?_)
  refine AW_if rfl (fun hc2 => ?_) (fun hc2 => ?_)  -- t27
  · have hnil : r1 = [] := List.eq_nil_of_length_eq_zero (by simp only [List.length_cons] at hc2; omega)
    subst hnil
    refine AW_seq ?_
    refine AW_reg [0, 1, 2] rfl ?_
    refine o_asg rfl rfl ?_
    refine o_asg rfl rfl ?_
    refine o_asg rfl rfl (OpsW_nil ?_)
    exact AW_ret (endR (.tup [.int 0, .nil, .int 4]) _ rfl rfl (ParseR.bad (by unfold parseRes; rw [if_neg hbig]; simp only; rw [if_neg hno])))
  obtain ⟨c, r2, rfl⟩ : ∃ c r2, r1 = c :: r2 := by
    match r1, hc2 with
    | [], h => simp at h
    | c :: r2, _ => exact ⟨c, r2, rfl⟩
  have hcl := c.toNat_lt
  have hr2 : r2.length ≤ 16777216 := by simp only [List.length_cons] at hbig; omega
  have pres : parseRes (t :: c :: r2) = if c.toNat > 8 then ((0 : Int), [], (1 : Int)) else match parseF c.toNat r2 with
        | none => ((0 : Int), [], (4 : Int))
        | some (ps, r) => if r.length > 0 then ((0 : Int), [], (3 : Int)) else ((t.toNat : Int), ps, (0 : Int)) := by
    unfold parseRes
    rw [if_neg hbig]
    simp only
    rw [if_neg hno]
  refine AW_skip ?_
  refine AW_st (N := 87) [(0, .bytes (t :: c :: r2)), (5, .int t.toNat)] Heap.empty rfl rfl ⟨rfl, rfl, trivial⟩ (fun _ hn => ?_)
  refine AW_seq ?_
  refine AW_reg [0, 1, 2, 3, 4] rfl ?_
  refine o_move rfl rfl ?_  -- t28
  refine o_ixl (i' := 1) rfl rfl uBytes zByte rfl rfl rfl (by simp) (bcells_ne (i := 0) (by simp)) ?_  -- t29
  refine o_ld (c := .u8 c.toNat) rfl rfl uByte rfl rfl rfl ?_  -- t30
  refine o_ci rfl rfl uByte uInt rfl (wrapi (n := c.toNat) (by omega)) ?_  -- t31
  refine o_asg rfl rfl (OpsW_nil ?_)  -- t6
  refine AW_seq ?_
  refine AW_seq ?_
  refine AW_reg [0, 1] rfl ?_
  refine o_move rfl rfl ?_  -- t32
  refine o_bin rfl rfl rfl rfl rfl (OpsW_nil ?_)  -- t33
  refine AW_if rfl (fun hc8 => ?_) (fun hc8 => ?_)  -- t33
  · refine AW_seq ?_
    refine AW_reg [0, 1, 2] rfl ?_
    refine o_asg rfl rfl ?_
    refine o_asg rfl rfl ?_
    refine o_asg rfl rfl (OpsW_nil ?_)
    exact AW_ret (endR (.tup [.int 0, .nil, .int 1]) _ rfl rfl (ParseR.bad (by rw [pres, if_pos (by omega)])))
  rw [if_neg (by omega)] at pres
  refine AW_skip ?_
  refine AW_st (N := 87) [(0, .bytes (t :: c :: r2)), (5, .int t.toNat), (6, .int c.toNat)] Heap.empty rfl rfl ⟨rfl, rfl, rfl, trivial⟩ (fun _ hn => ?_)
  refine AW_seq ?_
  refine AW_reg [0, 1, 2] rfl ?_
  refine o_move rfl rfl ?_  -- t34
  refine o_w rfl rfl (w_cutb (l := 2) (h := (t :: c :: r2).length) (c := r2) rfl uBytes zByte rfl (bnd_some .i64 rfl) (bnd_none _) (by simp) (Nat.le_refl _) (by simp) ?_)  -- t35
  refine o_asg rfl rfl (OpsW_nil ?_)  -- t0
  refine AW_seq ?_
  refine AW_reg [0] rfl ?_
  refine o_asg rfl rfl (OpsW_nil ?_)  -- t7
  refine AW_seq ?_
  refine AW_seq ?_
  refine AW_reg [0, 1] rfl ?_
  refine o_move rfl rfl ?_  -- t36
  refine o_move rfl rfl (OpsW_nil ?_)  -- t37
  refine AW_block ?_  -- block 0
  refine AW_loopI (α := ParseP) (fun p => [(0, .bytes p.bs), (5, .int t.toNat), (7, p.v), (36, .int c.toNat), (37, .int p.i)])
    (ParseI c.toNat r2) (fun p => c.toNat - p.i) (N := 87) rfl ⟨⟨0, [], r2, .nil⟩, ⟨Row.nil _ 1, Nat.zero_le _, rfl, Nat.le_refl _, by simp⟩, .same _, .same _, .same _, .same _, .same _, trivial⟩ ?_
  rintro ⟨i, ps, bs, v⟩ h n ⟨hrow, hic, hpl, hbl, hpf⟩ hlt
  simp only at hrow hic hpl hbl hpf
  refine AW_seq ?_
  refine AW_reg [0] rfl ?_
  refine o_bin rfl rfl rfl rfl rfl (OpsW_nil ?_)  -- t38
  refine AW_seq ?_
  refine AW_if rfl (fun hc3 => ?_) (fun hc3 => ?_)  -- t38
  · simp only at hc3
    obtain ⟨k, hk⟩ : ∃ k, c.toNat - i = k + 1 := ⟨c.toNat - i - 1, by omega⟩
    rw [hk, parseF] at hpf
    refine AW_skip ?_
    refine AW_seq ?_
    refine AW_block ?_  -- block 1
    refine AW_seq ?_
    refine AW_seq ?_
    refine AW_reg [0, 1, 2] rfl ?_
    refine o_move rfl rfl ?_
    refine o_len rfl rfl uBytes rfl ?_
    refine o_bin rfl rfl rfl rfl rfl (OpsW_nil ?_)
    refine AW_if rfl (fun h4 => ?_) (fun h4 => ?_)  -- t41
    · simp only at h4
      rw [if_pos (by omega)] at hpf
      rw [← hpf] at pres
      refine AW_seq ?_
      refine AW_reg [0, 1, 2] rfl ?_
      refine o_asg rfl rfl ?_
      refine o_asg rfl rfl ?_
      refine o_asg rfl rfl (OpsW_nil ?_)
      exact AW_ret (endR (.tup [.int 0, .nil, .int 4]) _ rfl rfl (ParseR.bad pres))
    simp only at h4
    rw [if_neg (by omega)] at hpf
    obtain ⟨x0, x1, x2, x3, rest, rfl⟩ : ∃ x0 x1 x2 x3 rest, bs = x0 :: x1 :: x2 :: x3 :: rest := by
      match bs, h4 with
      | [], h => simp at h
      | [_], h => simp at h
      | [_, _], h => simp at h
      | [_, _, _], h => simp at h
      | x0 :: x1 :: x2 :: x3 :: rest, _ => exact ⟨x0, x1, x2, x3, rest, rfl⟩
    have b0 := x0.toNat_lt
    have b1 := x1.toNat_lt
    have b2 := x2.toNat_lt
    have b3 := x3.toNat_lt
    obtain ⟨m, hm⟩ : ∃ m, m = x0.toNat * 16777216 + x1.toNat * 65536 + x2.toNat * 256 + x3.toNat := ⟨_, rfl⟩
    have hnum : num ((x0 :: x1 :: x2 :: x3 :: rest).take 4) = m := by
      rw [hm]
      simp [num]
      omega
    have hdrop : (x0 :: x1 :: x2 :: x3 :: rest).drop 4 = rest := rfl
    rw [hnum, hdrop] at hpf
    simp only [List.length_cons] at hbl
    refine AW_skip ?_
    refine AW_seq ?_
    refine AW_draw [(0, .bytes (x0 :: x1 :: x2 :: x3 :: rest)), (5, .int t.toNat), (7, v), (36, .int c.toNat), (37, .int i)] (fun k => (List.replicate 23 none : List (Option Nat)).getD k none)
      (fun k => ([.bytes (x0 :: x1 :: x2 :: x3 :: rest), .rptr (bcells (x0 :: x1 :: x2 :: x3 :: rest)) 0, .u8 x0.toNat, .int x0.toNat, .int (x0.toNat * 16777216 : Nat),
        .bytes (x0 :: x1 :: x2 :: x3 :: rest), .rptr (bcells (x0 :: x1 :: x2 :: x3 :: rest)) 1, .u8 x1.toNat, .int x1.toNat, .int (x1.toNat * 65536 : Nat), .int (x0.toNat * 16777216 + x1.toNat * 65536 : Nat),
        .bytes (x0 :: x1 :: x2 :: x3 :: rest), .rptr (bcells (x0 :: x1 :: x2 :: x3 :: rest)) 2, .u8 x2.toNat, .int x2.toNat, .int (x2.toNat * 256 : Nat), .int (x0.toNat * 16777216 + x1.toNat * 65536 + x2.toNat * 256 : Nat),
        .bytes (x0 :: x1 :: x2 :: x3 :: rest), .rptr (bcells (x0 :: x1 :: x2 :: x3 :: rest)) 3, .u8 x3.toNat, .int x3.toNat, .int m, .int m] : List AV).getD k .any)
      (fun k => ([[(0, none)], [(42, some 0)], [(43, some 1)], [(44, some 2)], [(45, some 3)], [(0, none)], [(47, some 5)], [(48, some 6)], [(49, some 7)], [(50, some 8)], [(46, some 4), (51, some 9)], [(0, none)], [(53, some 11)], [(54, some 12)], [(55, some 13)], [(56, some 14)], [(52, some 10), (57, some 15)], [(0, none)], [(59, some 17)], [(60, some 18)], [(61, some 19)], [(58, some 16), (62, some 20)], [(63, some 21)]] : List (List (Nat × Option Nat))).getD k [])
      [(0, none), (5, none), (7, none), (36, none), (37, none), (8, some 22)]
      (fun D e h => Row h v (ps.map .bytes) ps.length 1) (N := 87) rfl mixed (by kernel_rfl) ⟨rfl, rfl, rfl, rfl, rfl, trivial⟩ hlt hrow (a_op ?_ (a_op ?_ (a_op ?_ (a_op ?_ (a_op ?_ (a_op ?_ (a_op ?_ (a_op ?_ (a_op ?_ (a_op ?_ (a_op ?_ (a_op ?_ (a_op ?_ (a_op ?_ (a_op ?_ (a_op ?_ (a_op ?_ (a_op ?_ (a_op ?_ (a_op ?_ (a_op ?_ (a_op ?_ (a_op ?_ (a_nil)))))))))))))))))))))))) ?_
    · exact fun D e h n hD hdep hH hlt => w_move rfl ⟨_, h, n, rfl, rfl, hH, hlt⟩
    · exact fun D e h n hD hdep hH hlt => w_ixl (i' := 0) rfl uBytes zByte rfl rfl rfl (by simp) (bcells_ne (i := 0) (by simp)) ⟨_, h, n, rfl, rfl, hH, hlt⟩
    · exact fun D e h n hD hdep hH hlt => w_ld (c := .u8 x0.toNat) rfl uByte rfl rfl rfl ⟨_, h, n, rfl, rfl, hH, hlt⟩
    · exact fun D e h n hD hdep hH hlt => w_ci rfl uByte uInt rfl (wrapi (by omega)) ⟨_, h, n, rfl, rfl, hH, hlt⟩
    · exact fun D e h n hD hdep hH hlt => w_shl (c := ((x0.toNat * 16777216 : Nat) : Int)) rfl rfl rfl (by decide) (shl24 x0.toNat b0) ⟨_, h, n, rfl, rfl, hH, hlt⟩
    · exact fun D e h n hD hdep hH hlt => w_move rfl ⟨_, h, n, rfl, rfl, hH, hlt⟩
    · exact fun D e h n hD hdep hH hlt => w_ixl (i' := 1) rfl uBytes zByte rfl rfl rfl (by simp) (bcells_ne (i := 0) (by simp)) ⟨_, h, n, rfl, rfl, hH, hlt⟩
    · exact fun D e h n hD hdep hH hlt => w_ld (c := .u8 x1.toNat) rfl uByte rfl rfl rfl ⟨_, h, n, rfl, rfl, hH, hlt⟩
    · exact fun D e h n hD hdep hH hlt => w_ci rfl uByte uInt rfl (wrapi (by omega)) ⟨_, h, n, rfl, rfl, hH, hlt⟩
    · exact fun D e h n hD hdep hH hlt => w_shl (c := ((x1.toNat * 65536 : Nat) : Int)) rfl rfl rfl (by decide) (shl16 x1.toNat b1) ⟨_, h, n, rfl, rfl, hH, hlt⟩
    · exact fun D e h n hD hdep hH hlt => w_bin (v := .int .i64 ((x0.toNat * 16777216 + x1.toNat * 65536 : Nat) : Int)) rfl rfl rfl (by simp only [ibin]; rw [bits_or_i64 _ _ (by omega) (by omega), or_mul (k := 24) (by omega) (by omega)]) ⟨_, h, n, rfl, rfl, hH, hlt⟩
    · exact fun D e h n hD hdep hH hlt => w_move rfl ⟨_, h, n, rfl, rfl, hH, hlt⟩
    · exact fun D e h n hD hdep hH hlt => w_ixl (i' := 2) rfl uBytes zByte rfl rfl rfl (by simp) (bcells_ne (i := 0) (by simp)) ⟨_, h, n, rfl, rfl, hH, hlt⟩
    · exact fun D e h n hD hdep hH hlt => w_ld (c := .u8 x2.toNat) rfl uByte rfl rfl rfl ⟨_, h, n, rfl, rfl, hH, hlt⟩
    · exact fun D e h n hD hdep hH hlt => w_ci rfl uByte uInt rfl (wrapi (by omega)) ⟨_, h, n, rfl, rfl, hH, hlt⟩
    · exact fun D e h n hD hdep hH hlt => w_shl (c := ((x2.toNat * 256 : Nat) : Int)) rfl rfl rfl (by decide) (shl8 x2.toNat b2) ⟨_, h, n, rfl, rfl, hH, hlt⟩
    · exact fun D e h n hD hdep hH hlt => w_bin (v := .int .i64 ((x0.toNat * 16777216 + x1.toNat * 65536 + x2.toNat * 256 : Nat) : Int)) rfl rfl rfl (by simp only [ibin]; rw [bits_or_i64 _ _ (by omega) (by omega), or_mul (k := 16) (by omega) (by omega)]) ⟨_, h, n, rfl, rfl, hH, hlt⟩
    · exact fun D e h n hD hdep hH hlt => w_move rfl ⟨_, h, n, rfl, rfl, hH, hlt⟩
    · exact fun D e h n hD hdep hH hlt => w_ixl (i' := 3) rfl uBytes zByte rfl rfl rfl (by simp) (bcells_ne (i := 0) (by simp)) ⟨_, h, n, rfl, rfl, hH, hlt⟩
    · exact fun D e h n hD hdep hH hlt => w_ld (c := .u8 x3.toNat) rfl uByte rfl rfl rfl ⟨_, h, n, rfl, rfl, hH, hlt⟩
    · exact fun D e h n hD hdep hH hlt => w_ci rfl uByte uInt rfl (wrapi (by omega)) ⟨_, h, n, rfl, rfl, hH, hlt⟩
    · exact fun D e h n hD hdep hH hlt => w_bin (v := .int .i64 (m : Int)) rfl rfl rfl (by simp only [ibin]; rw [bits_or_i64 _ _ (by omega) (by omega), or_mul (k := 8) (by omega) (by omega), hm]) ⟨_, h, n, rfl, rfl, hH, hlt⟩
    · exact fun D e h n hD hdep hH hlt => w_asg rfl ⟨_, h, n, rfl, rfl, hH, hlt⟩
    rintro e h n hrow hlt
    refine AW_seq ?_
    refine AW_reg [0, 1, 2] rfl ?_
    refine o_move rfl rfl ?_  -- t64
    refine o_w rfl rfl (w_cutb (l := 4) (h := (x0 :: x1 :: x2 :: x3 :: rest).length) (c := rest) rfl uBytes zByte rfl (bnd_some .i64 rfl) (bnd_none _) (by simp) (Nat.le_refl _) (by simp) ?_)  -- t65
    refine o_asg rfl rfl (OpsW_nil ?_)  -- t0
    refine AW_seq ?_
    refine AW_seq ?_
    refine AW_reg [0, 1, 2, 3] rfl ?_
    refine o_move rfl rfl ?_  -- t66
    refine o_len rfl rfl uBytes rfl ?_  -- t67
    refine o_move rfl rfl ?_  -- t68
    refine o_bin rfl rfl rfl rfl rfl (OpsW_nil ?_)  -- t69
    refine AW_if rfl (fun h5 => ?_) (fun h5 => ?_)  -- t69
    · rw [if_pos (by omega)] at hpf
      rw [← hpf] at pres
      refine AW_seq ?_
      refine AW_reg [0, 1, 2] rfl ?_
      refine o_asg rfl rfl ?_
      refine o_asg rfl rfl ?_
      refine o_asg rfl rfl (OpsW_nil ?_)
      exact AW_ret (endR (.tup [.int 0, .nil, .int 4]) _ rfl rfl (ParseR.bad pres))
    have hmr : m ≤ rest.length := by omega
    rw [if_neg (by omega)] at hpf
    refine AW_skip ?_
    refine AW_seq ?_
    refine AW_st (N := 87) [(0, .bytes rest), (5, .int t.toNat), (7, v), (36, .int c.toNat), (37, .int i), (8, .int m)] h rfl rfl ⟨rfl, rfl, rfl, rfl, rfl, rfl, trivial⟩ (fun n hlt => ?_)
    refine AW_reg [0, 1, 2, 3, 4, 5, 6, 7, 8] rfl ?_
    refine o_move rfl rfl ?_  -- t70
    refine o_bs0 rfl rfl uBytes iByte ?_  -- t71
    intro v1 h1 n1 hr1 hn1 hk1
    obtain ⟨hq1, hs1⟩ := hrow.old hk1
    refine o_move rfl rfl ?_  -- t72
    refine o_move rfl rfl ?_  -- t73
    refine o_w rfl rfl (w_cutb (l := 0) (h := m) (c := rest.take m) rfl uBytes zByte rfl (bnd_none _) (bnd_some .i64 rfl) (Nat.zero_le _) hmr (by simp) ?_)  -- t74
    refine o_app rfl rfl uBytes uBytes iByte rfl hr1 (ys := bcells (rest.take m)) (m := (rest.take m).length) rfl (by simp [bcells_length]) (fun _ => AV.noConfusion) (by simp; omega) (by simp; omega) ?_  -- t75
    intro v2 h2 n2 hr2 hn2 hk2
    obtain ⟨hq2, hs2⟩ := hq1.other hs1 hk2
    have hr2' : Row h2 v2 (bcells (rest.take m)) (rest.take m).length 1 := hr2.eqTo (by simp) (by simp)
    refine OpsW_pubRow (d := 75) (N := 87) [(70, v), (0, .bytes rest), (5, .int t.toNat), (36, .int c.toNat), (37, .int i), (8, .int m)] rfl hr2' ⟨rfl, rfl, rfl, rfl, rfl, rfl, trivial⟩ rfl (fun h3 n3 hn3 hk3 => ?_)
    have hq3 : Row h3 v (ps.map .bytes) ps.length 1 := hq2.stay hs2 hk3
    refine o_bs (cs := [.bytes (rest.take m)]) rfl rfl uLists iBytes rfl (by kernel_rfl) (by decide) (by decide) rfl rfl ?_  -- t76
    intro v4 h4 n4 hr4 hn4 hk4
    obtain ⟨hq4, hs4⟩ := hq3.old hk4
    refine o_app rfl rfl uLists uLists iBytes rfl hq4 hr4.cont hr4.1 hr4.nostr (by omega) (by omega) ?_  -- t77
    intro v5 h5 n5 hr5 hn5 hk5
    refine o_asg rfl rfl (OpsW_nil ?_)  -- t7
    refine AW_reg [0, 1, 2, 3] rfl ?_
    refine o_move rfl rfl ?_  -- t78
    refine o_move rfl rfl ?_  -- t79
    refine o_w rfl rfl (w_cutb (l := m) (h := rest.length) (c := rest.drop m) rfl uBytes zByte rfl (bnd_some .i64 rfl) (bnd_none _) hmr (Nat.le_refl _) (List.take_of_length_le (by simp)) ?_)  -- t80
    refine o_asg rfl rfl (OpsW_nil ?_)  -- t0
    refine AW_reg [0, 1] rfl ?_
    refine o_add rfl rfl rfl rfl (c := ((i + 1 : Nat) : Int)) rfl (by omega) ?_  -- t81
    refine o_move rfl rfl (OpsW_nil ?_)  -- t37
    refine ⟨rfl, ⟨i + 1, ps ++ [rest.take m], rest.drop m, v5⟩, ⟨hr5.eqTo (by simp) (by simp), ?_, ?_, ?_, ?_⟩, ?_, .same _, .same _, .same _, .same _, .same _, trivial⟩
    · simp only; omega
    · simp only [List.length_append, List.length_cons, List.length_nil]; omega
    · simp only [List.length_drop]; omega
    · simp only
      rw [← hpf, show c.toNat - (i + 1) = k by omega]
      simp only [Option.map_map]
      congr 1
      funext p
      simp
    · simp only; omega
  · simp only at hc3
    have hci : c.toNat - i = 0 := by omega
    rw [hci, parseF] at hpf
    simp only [Option.map_some, List.append_nil] at hpf
    rw [← hpf] at pres
    simp only at pres
    refine AW_exit ?_  -- exit 0
    refine AW_seq ?_
    refine AW_seq ?_
    refine AW_reg [0, 1, 2] rfl ?_
    refine o_move rfl rfl ?_
    refine o_len rfl rfl uBytes rfl ?_
    refine o_bin rfl rfl rfl rfl rfl (OpsW_nil ?_)
    refine AW_if rfl (fun h5 => ?_) (fun h5 => ?_)  -- t84
    · simp only at h5
      refine AW_seq ?_
      refine AW_reg [0, 1, 2] rfl ?_
      refine o_asg rfl rfl ?_
      refine o_asg rfl rfl ?_
      refine o_asg rfl rfl (OpsW_nil ?_)
      exact AW_ret (endR (.tup [.int 0, .nil, .int 3]) _ rfl rfl (ParseR.bad (by rw [pres, if_pos (by omega)])))
    · simp only at h5
      refine AW_skip ?_
      refine AW_seq ?_
      refine AW_reg [0, 1, 2, 3, 4] rfl ?_
      refine o_move rfl rfl ?_
      refine o_move rfl rfl ?_
      refine o_asg rfl rfl ?_
      refine o_asg rfl rfl ?_
      refine o_asg rfl rfl (OpsW_nil ?_)
      exact AW_ret (endR (.tup [.int t.toNat, v, .int 0]) h rfl rfl (ParseR.good (by rw [pres, if_neg (by omega)]) hrow))
end Go.Proofs.Ytaojoppkkmpieaa.VM
