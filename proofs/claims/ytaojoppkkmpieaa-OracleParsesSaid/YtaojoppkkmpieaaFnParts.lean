/- ref.PartsOf: the same as oracle.Parse. -/
import Derived.Test.YtaojoppkkmpieaaFnParse
namespace Go.Proofs.Ytaojoppkkmpieaa.VM
open Go Go.RowKit

structure PartP where
  i : Nat
  ps : List (List UInt8)
  at' : Nat
  v : AV

set_option maxHeartbeats 4000000 in
theorem PartsOf_ac (b : List UInt8) (hbl : b.length ≤ 4611686018427387904) : AC Try.prog 29 [.bytes b] Heap.empty (ParseR b) := by
  refine AC_of_body Try.func29 rfl rfl (Nat.le_of_ble_eq_true rfl) rfl (fun _ hn => ?_)
  refine AW_seq ?_
  refine AW_reg [0, 1, 2] rfl ?_
  refine o_asg rfl rfl ?_
  refine o_asg rfl rfl ?_
  refine o_asg rfl rfl (OpsW_nil ?_)
  refine AW_seq ?_
  refine AW_reg [0, 1, 2] rfl ?_
  refine o_move rfl rfl ?_
  refine o_cb (bs := b) rfl rfl uBytes uByte uStr rfl ?_
  refine o_asg rfl rfl (OpsW_nil ?_)  -- t5
  refine AW_seq ?_
  refine AW_block ?_  -- block 0
  refine AW_st (N := 87) [(5, .txt b)] Heap.empty rfl rfl ⟨rfl, trivial⟩ (fun _ hn => ?_)
  refine AW_seq ?_
  refine AW_reg [0, 1, 2, 3] rfl ?_
  refine o_move rfl rfl ?_
  refine o_lent rfl rfl uStr rfl ?_
  refine o_bin rfl rfl rfl rfl rfl ?_
  refine o_asg rfl rfl (OpsW_nil ?_)
  refine AW_if rfl (fun hc => ?_) (fun hc => ?_)  -- t12
  · refine AW_seq ?_
    refine AW_reg [0, 1, 2] rfl ?_
    refine o_asg rfl rfl ?_
    refine o_asg rfl rfl ?_
    refine o_asg rfl rfl (OpsW_nil ?_)
    exact AW_ret (endR (.tup [.int 0, .nil, .int 1]) _ rfl rfl (ParseR.bad (by unfold parseRes; rw [if_pos (by omega)])))
  have hbig : ¬ b.length > 16777216 := by omega
  refine AW_seq ?_
  refine AW_reg [0, 1, 2, 3] rfl ?_
  refine o_move rfl rfl ?_
  refine o_lent rfl rfl uStr rfl ?_
  refine o_bin rfl rfl rfl rfl rfl ?_
  refine o_asg rfl rfl (OpsW_nil ?_)
  refine AW_ifeq rfl (fun hc1 => ?_) (fun hc1 => ?_)  -- t16
  · have hnil : b = [] := List.eq_nil_of_length_eq_zero (by omega)
    subst hnil
    refine AW_seq ?_
    refine AW_reg [0, 1, 2] rfl ?_
    refine o_asg rfl rfl ?_
    refine o_asg rfl rfl ?_
    refine o_asg rfl rfl (OpsW_nil ?_)
    exact AW_ret (endR (.tup [.int 0, .nil, .int 4]) _ rfl rfl (ParseR.bad rfl))
  obtain ⟨t, r1, rfl⟩ : ∃ t r1, b = t :: r1 := by
    match b, hc1 with
    | [], h => simp at h
    | t :: r1, _ => exact ⟨t, r1, rfl⟩
  have ht := t.toNat_lt
  refine AW_seq ?_
  refine AW_st (N := 87) [(5, .txt (t :: r1))] Heap.empty rfl rfl ⟨rfl, trivial⟩ (fun _ hn => ?_)
  refine AW_reg [0, 1, 2, 3, 4, 5, 6, 7, 8, 9] rfl ?_
  refine o_move rfl rfl ?_
  refine o_ixt (n := 0) (c := t) rfl rfl uStr rfl rfl rfl rfl ?_
  by_cases h1 : t.toNat < 1
  · refine o_bin (v := .bool true) rfl rfl rfl rfl (by simp only [ibin]; rw [show (t.toNat : Int) = 0 by omega]; rfl) ?_
    refine o_move rfl rfl ?_
    refine o_off rfl rfl rfl (.inl rfl) rfl rfl ?_
    refine o_off rfl rfl rfl (.inl rfl) rfl rfl ?_
    refine o_off rfl rfl rfl (.inl rfl) rfl rfl ?_
    refine o_off rfl rfl rfl (.inl rfl) rfl rfl ?_
    refine o_pick (v := .bool true) rfl rfl rfl rfl ?_
    refine o_asg rfl rfl (OpsW_nil ?_)
    refine AW_cond (b := true) rfl (fun _ => ?_) (fun hc => by cases hc)
    refine AW_seq ?_
    refine AW_reg [0, 1, 2] rfl ?_
    refine o_asg rfl rfl ?_
    refine o_asg rfl rfl ?_
    refine o_asg rfl rfl (OpsW_nil ?_)
    exact AW_ret (endR (.tup [.int 0, .nil, .int 6]) _ rfl rfl (ParseR.bad (by unfold parseRes; rw [if_neg hbig]; simp only; rw [if_pos (.inl h1)])))
  refine o_bin (v := .bool false) rfl rfl rfl rfl (by simp only [ibin]; rw [beq_eq_false_iff_ne.2 (show (t.toNat : Int) ≠ 0 by omega)]) ?_
  refine o_move rfl rfl ?_
  refine o_on rfl rfl rfl rfl rfl (OpW_move rfl ?_)
  refine o_on rfl rfl rfl rfl rfl (w_ixt (n := 0) (c := t) rfl uStr rfl rfl rfl rfl ?_)
  refine o_on rfl rfl rfl rfl rfl (w_ci rfl uByte uInt rfl (wrapi (n := t.toNat) (by omega)) ?_)
  refine o_on rfl rfl rfl rfl rfl (OpW_ibin rfl rfl rfl rfl ?_)
  refine o_pick (v := .bool (decide ((t.toNat : Int) > 9))) rfl rfl rfl rfl ?_
  refine o_asg rfl rfl (OpsW_nil ?_)
  refine AW_if rfl (fun hc9 => ?_) (fun hc9 => ?_)  -- t20
  · refine AW_seq ?_
    refine AW_reg [0, 1, 2] rfl ?_
    refine o_asg rfl rfl ?_
    refine o_asg rfl rfl ?_
    refine o_asg rfl rfl (OpsW_nil ?_)
    exact AW_ret (endR (.tup [.int 0, .nil, .int 6]) _ rfl rfl (ParseR.bad (by unfold parseRes; rw [if_neg hbig]; simp only; rw [if_pos (.inr (by omega))])))
  have hno : ¬ (t.toNat < 1 ∨ t.toNat > 9) := by omega
  refine AW_seq ?_
  refine AW_st (N := 87) [(5, .txt (t :: r1))] Heap.empty rfl rfl ⟨rfl, trivial⟩ (fun _ hn => ?_)
  refine AW_reg [0, 1, 2, 3] rfl ?_
  refine o_move rfl rfl ?_
  refine o_lent rfl rfl uStr rfl ?_
  refine o_bin rfl rfl rfl rfl rfl ?_
  refine o_asg rfl rfl (OpsW_nil ?_)
  refine AW_ifeq rfl (fun hc2 => ?_) (fun hc2 => ?_)  -- t30
  · have hnil : r1 = [] := List.eq_nil_of_length_eq_zero (by simp only [List.length_cons] at hc2; omega)
    subst hnil
    refine AW_seq ?_
    refine AW_reg [0, 1, 2] rfl ?_
    refine o_asg rfl rfl ?_
    refine o_asg rfl rfl ?_
    refine o_asg rfl rfl (OpsW_nil ?_)
    exact AW_ret (endR (.tup [.int 0, .nil, .int 4]) _ rfl rfl (ParseR.bad (by unfold parseRes; rw [if_neg hbig]; simp only; rw [if_neg hno])))
  obtain ⟨c, r2, rfl⟩ : ∃ c r2, r1 = c :: r2 := by
    match r1, hc2 with
    | [], h => simp at h
    | c :: r2, _ => exact ⟨c, r2, rfl⟩
  have hcl := c.toNat_lt
  have hr2 : r2.length ≤ 16777216 := by simp only [List.length_cons] at hbig; omega
  have pres : parseRes (t :: c :: r2) = if c.toNat > 8 then ((0 : Int), [], (1 : Int)) else match parseF c.toNat r2 with
        | none => ((0 : Int), [], (4 : Int))
        | some (ps, r) => if r.length > 0 then ((0 : Int), [], (3 : Int)) else ((t.toNat : Int), ps, (0 : Int)) := by
    unfold parseRes
    rw [if_neg hbig]
    simp only
    rw [if_neg hno]
    rfl
  refine AW_seq ?_
  refine AW_reg [0, 1, 2, 3, 4] rfl ?_
  refine o_move rfl rfl ?_
  refine o_ixt (n := 1) (c := c) rfl rfl uStr rfl rfl rfl rfl ?_
  refine o_ci rfl rfl uByte uInt rfl (wrapi (n := c.toNat) (by omega)) ?_
  refine o_bin rfl rfl rfl rfl rfl ?_
  refine o_asg rfl rfl (OpsW_nil ?_)
  refine AW_if rfl (fun hc8 => ?_) (fun hc8 => ?_)  -- t34
  · refine AW_seq ?_
    refine AW_reg [0, 1, 2] rfl ?_
    refine o_asg rfl rfl ?_
    refine o_asg rfl rfl ?_
    refine o_asg rfl rfl (OpsW_nil ?_)
    exact AW_ret (endR (.tup [.int 0, .nil, .int 1]) _ rfl rfl (ParseR.bad (by rw [pres, if_pos (by omega)])))
  rw [if_neg (by omega)] at pres
  generalize hfull : t :: c :: r2 = full at *
  have hfl : full.length = r2.length + 2 := by rw [← hfull]; simp
  have hf0 : full[0]? = some t := by rw [← hfull]; rfl
  have hf1 : full[1]? = some c := by rw [← hfull]; rfl
  have hf2 : full.drop 2 = r2 := by rw [← hfull]; rfl
  refine AW_skip ?_
  refine AW_st (N := 87) [(5, .txt full)] Heap.empty rfl rfl ⟨rfl, trivial⟩ (fun _ hn => ?_)
  refine AW_seq ?_
  refine AW_reg [0] rfl ?_
  refine o_asg rfl rfl (OpsW_nil ?_)  -- t6
  refine AW_seq ?_
  refine AW_reg [0] rfl ?_
  refine o_asg rfl rfl (OpsW_nil ?_)  -- t7
  refine AW_seq ?_
  refine AW_seq ?_
  refine AW_reg [0] rfl ?_
  refine o_asg rfl rfl (OpsW_nil ?_)  -- t8
  refine AW_block ?_  -- block 1
  refine AW_loopI (α := PartP) (fun p => [(5, .txt full), (6, p.v), (7, .int p.at'), (8, .int p.i)])
    (fun p h => ParseI c.toNat r2 ⟨p.i, p.ps, full.drop p.at', p.v⟩ h ∧ p.at' ≤ full.length) (fun p => c.toNat - p.i) (N := 87) rfl
    ⟨⟨0, [], 2, .nil⟩, ⟨⟨Row.nil _ 1, Nat.zero_le _, rfl, by simp only [hf2]; exact Nat.le_refl _, by simp only [hf2]; simp⟩, by simp only; omega⟩, .same _, .same _, .same _, .same _, trivial⟩ ?_
  rintro ⟨i, ps, at', v⟩ h n ⟨⟨hrow, hic, hpl, hbl2, hpf⟩, hat⟩ hlt
  simp only at hrow hic hpl hbl2 hpf hat
  have hdl : (full.drop at').length = full.length - at' := by simp
  refine AW_seq ?_
  refine AW_seq ?_
  refine AW_reg [0, 1, 2, 3, 4] rfl ?_
  refine o_move rfl rfl ?_
  refine o_move rfl rfl ?_
  refine o_ixt (n := 1) (c := c) rfl rfl uStr rfl rfl rfl hf1 ?_
  refine o_ci rfl rfl uByte uInt rfl (wrapi (n := c.toNat) (by omega)) ?_
  refine o_bin rfl rfl rfl rfl rfl (OpsW_nil ?_)
  refine AW_if rfl (fun hc3 => ?_) (fun hc3 => ?_)  -- t43
  · simp only at hc3
    obtain ⟨k, hk⟩ : ∃ k, c.toNat - i = k + 1 := ⟨c.toNat - i - 1, by omega⟩
    rw [hk, parseF] at hpf
    refine AW_skip ?_
    refine AW_seq ?_
    refine AW_block ?_  -- block 2
    refine AW_seq ?_
    refine AW_seq ?_
    refine AW_reg [0, 1, 2, 3, 4] rfl ?_
    refine o_move rfl rfl ?_
    refine o_lent rfl rfl uStr rfl ?_
    refine o_move rfl rfl ?_
    refine o_sub rfl rfl rfl rfl (c := ((full.length - at' : Nat) : Int)) (by simp only; omega) (by omega) ?_
    refine o_bin rfl rfl rfl rfl rfl (OpsW_nil ?_)
    refine AW_if rfl (fun h4 => ?_) (fun h4 => ?_)  -- t50
    · rw [if_pos (by omega)] at hpf
      rw [← hpf] at pres
      refine AW_seq ?_
      refine AW_reg [0, 1, 2] rfl ?_
      refine o_asg rfl rfl ?_
      refine o_asg rfl rfl ?_
      refine o_asg rfl rfl (OpsW_nil ?_)
      exact AW_ret (endR (.tup [.int 0, .nil, .int 4]) _ rfl rfl (ParseR.bad pres))
    rw [if_neg (by omega)] at hpf
    have hdd : (full.drop at').drop 4 = full.drop (at' + 4) := List.drop_drop
    rw [hdd] at hpf
    have hnl : ((full.drop at').take 4).length = 4 := by simp; omega
    obtain ⟨m, hm⟩ : ∃ m, m = num ((full.drop at').take 4) := ⟨_, rfl⟩
    have hm32 : m < 4294967296 := by
      rw [hm]
      match hq : (full.drop at').take 4, hnl with
      | [x0, x1, x2, x3], _ =>
        have b0 := x0.toNat_lt
        have b1 := x1.toNat_lt
        have b2 := x2.toNat_lt
        have b3 := x3.toNat_lt
        simp [num]
        omega
    rw [← hm] at hpf
    refine AW_skip ?_
    refine AW_seq ?_
    refine AW_st (N := 87) [(5, .txt full), (6, v), (7, .int at'), (8, .int i)] h rfl rfl ⟨rfl, rfl, rfl, rfl, trivial⟩ (fun n hlt => ?_)
    refine AW_reg [0, 1, 2, 3, 4, 5, 6, 7] rfl ?_
    refine o_move rfl rfl ?_
    refine o_move rfl rfl ?_
    refine o_move rfl rfl ?_
    refine o_add rfl rfl rfl rfl (c := ((at' + 4 : Nat) : Int)) (by omega) (by omega) ?_
    refine o_w rfl rfl (w_cutt (l := at') (h := at' + 4) (c := (full.drop at').take 4) rfl uStr rfl (bnd_some .i64 rfl) (bnd_some .i64 rfl) (by omega) (by omega) (by rw [show at' + 4 - at' = 4 by omega]) ?_)
    refine o_callf rfl rfl Try.func36 rfl rfl rfl (number_ac ((full.drop at').take 4) (by omega)) ?_
    rintro r hr n1 rfl hn1 hk1
    have hq1 := hrow.merge hk1
    refine o_ci (m := (m : Int)) rfl rfl uU64 uInt rfl (by rw [← hm, Nat.mod_eq_of_lt (by omega)]; exact wrapi (by omega)) ?_
    refine o_asg rfl rfl (OpsW_nil ?_)  -- t9
    refine AW_seq ?_
    refine AW_reg [0, 1, 2] rfl ?_
    refine o_move rfl rfl ?_
    refine o_add rfl rfl rfl rfl (c := ((at' + 4 : Nat) : Int)) (by omega) (by omega) ?_
    refine o_asg rfl rfl (OpsW_nil ?_)  -- t7
    refine AW_seq ?_
    refine AW_seq ?_
    refine AW_reg [0, 1, 2, 3, 4, 5] rfl ?_
    refine o_move rfl rfl ?_
    refine o_lent rfl rfl uStr rfl ?_
    refine o_move rfl rfl ?_
    refine o_sub rfl rfl rfl rfl (c := ((full.length - (at' + 4) : Nat) : Int)) (by omega) (by omega) ?_
    refine o_move rfl rfl ?_
    refine o_bin rfl rfl rfl rfl rfl (OpsW_nil ?_)
    have hdl4 : (full.drop (at' + 4)).length = full.length - (at' + 4) := by simp
    refine AW_if rfl (fun h5 => ?_) (fun h5 => ?_)  -- t65
    · rw [if_pos (by omega)] at hpf
      rw [← hpf] at pres
      refine AW_seq ?_
      refine AW_reg [0, 1, 2] rfl ?_
      refine o_asg rfl rfl ?_
      refine o_asg rfl rfl ?_
      refine o_asg rfl rfl (OpsW_nil ?_)
      exact AW_ret (endR (.tup [.int 0, .nil, .int 4]) _ rfl rfl (ParseR.bad pres))
    rw [if_neg (by omega)] at hpf
    refine AW_skip ?_
    refine AW_seq ?_
    refine AW_st (N := 87) [(5, .txt full), (6, v), (7, .int (at' + 4 : Nat)), (8, .int i), (9, .int m)] (h.merge hr) rfl rfl ⟨rfl, rfl, rfl, rfl, rfl, trivial⟩ (fun n hlt => ?_)
    refine AW_reg [0, 1, 2, 3, 4, 5, 6, 7, 8, 9, 10] rfl ?_
    refine o_move rfl rfl ?_  -- t66
    refine o_move rfl rfl ?_
    refine o_move rfl rfl ?_
    refine o_move rfl rfl ?_
    refine o_move rfl rfl ?_
    refine o_add rfl rfl rfl rfl (c := ((at' + 4 + m : Nat) : Int)) (by omega) (by omega) ?_
    refine o_w rfl rfl (w_cutt (l := at' + 4) (h := at' + 4 + m) (c := (full.drop (at' + 4)).take m) rfl uStr rfl (bnd_some .i64 rfl) (bnd_some .i64 rfl) (by omega) (by omega) (by rw [show at' + 4 + m - (at' + 4) = m by omega]) ?_)  -- t72
    refine o_sb rfl rfl uStr uBytes uByte rfl ?_  -- t73
    intro v2 h2 n2 hr2 hn2 hk2
    obtain ⟨hq2, hs2⟩ := hq1.old hk2
    refine OpsW_pubRow (d := 73) (N := 87) [(66, v), (5, .txt full), (7, .int (at' + 4 : Nat)), (8, .int i), (9, .int m)] rfl hr2 ⟨rfl, rfl, rfl, rfl, rfl, trivial⟩ rfl (fun h3 n3 hn3 hk3 => ?_)
    have hq3 : Row h3 v (ps.map .bytes) ps.length 1 := hq2.stay hs2 hk3
    refine o_bs (cs := [.bytes ((full.drop (at' + 4)).take m)]) rfl rfl uLists iBytes rfl (by kernel_rfl) (by decide) (by decide) rfl rfl ?_  -- t74
    intro v4 h4' n4 hr4 hn4 hk4
    obtain ⟨hq4, hs4⟩ := hq3.old hk4
    refine o_app rfl rfl uLists uLists iBytes rfl hq4 hr4.cont hr4.1 hr4.nostr (by omega) (by omega) ?_  -- t75
    intro v5 h5' n5 hr5 hn5 hk5
    refine o_asg rfl rfl (OpsW_nil ?_)  -- t6
    refine AW_reg [0, 1, 2, 3] rfl ?_
    refine o_move rfl rfl ?_
    refine o_move rfl rfl ?_
    refine o_add rfl rfl rfl rfl (c := ((at' + 4 + m : Nat) : Int)) (by omega) (by omega) ?_
    refine o_asg rfl rfl (OpsW_nil ?_)  -- t7
    refine AW_reg [0, 1, 2] rfl ?_
    refine o_move rfl rfl ?_
    refine o_add rfl rfl rfl rfl (c := ((i + 1 : Nat) : Int)) rfl (by omega) ?_
    refine o_asg rfl rfl (OpsW_nil ?_)  -- t8
    have hdd2 : (full.drop (at' + 4)).drop m = full.drop (at' + 4 + m) := List.drop_drop
    rw [hdd2] at hpf
    refine ⟨rfl, ⟨i + 1, ps ++ [(full.drop (at' + 4)).take m], at' + 4 + m, v5⟩, ⟨⟨hr5.eqTo (by simp) (by simp), ?_, ?_, ?_, ?_⟩, ?_⟩, ?_, .same _, .same _, .same _, .same _, trivial⟩
    · simp only; omega
    · simp only [List.length_append, List.length_cons, List.length_nil]; omega
    · simp only [List.length_drop]; omega
    · simp only
      rw [← hpf, show c.toNat - (i + 1) = k by omega]
      simp only [Option.map_map]
      congr 1
      funext p
      simp
    · simp only; omega
    · simp only; omega
  · simp only at hc3
    have hci : c.toNat - i = 0 := by omega
    rw [hci, parseF] at hpf
    simp only [Option.map_some, List.append_nil] at hpf
    rw [← hpf] at pres
    simp only at pres
    refine AW_exit ?_  -- exit 1
    refine AW_seq ?_
    refine AW_seq ?_
    refine AW_reg [0, 1, 2, 3] rfl ?_
    refine o_move rfl rfl ?_
    refine o_move rfl rfl ?_
    refine o_lent rfl rfl uStr rfl ?_
    refine o_bin rfl rfl rfl rfl rfl (OpsW_nil ?_)
    refine AW_ifne rfl (fun h5 => ?_) (fun h5 => ?_)  -- t82
    · simp only at h5
      refine AW_seq ?_
      refine AW_reg [0, 1, 2] rfl ?_
      refine o_asg rfl rfl ?_
      refine o_asg rfl rfl ?_
      refine o_asg rfl rfl (OpsW_nil ?_)
      exact AW_ret (endR (.tup [.int 0, .nil, .int 3]) _ rfl rfl (ParseR.bad (by rw [pres, if_pos (by omega)])))
    · simp only at h5
      refine AW_skip ?_
      refine AW_seq ?_
      refine AW_reg [0, 1, 2, 3, 4, 5, 6] rfl ?_
      refine o_move rfl rfl ?_
      refine o_ixt (n := 0) (c := t) rfl rfl uStr rfl rfl rfl hf0 ?_
      refine o_ci rfl rfl uByte uInt rfl (wrapi (n := t.toNat) (by omega)) ?_
      refine o_move rfl rfl ?_
      refine o_asg rfl rfl ?_
      refine o_asg rfl rfl ?_
      refine o_asg rfl rfl (OpsW_nil ?_)
      exact AW_ret (endR (.tup [.int t.toNat, v, .int 0]) h rfl rfl (ParseR.good (by rw [pres, if_neg (by omega)]) hrow))
end Go.Proofs.Ytaojoppkkmpieaa.VM
