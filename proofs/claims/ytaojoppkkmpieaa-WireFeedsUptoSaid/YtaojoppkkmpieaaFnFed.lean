/- ref.Fed: the same as wire.Feed. -/
import Derived.Test.YtaojoppkkmpieaaVmHeavy
import Derived.Test.YtaojoppkkmpieaaFnFeed
import Derived.Test.YtaojoppkkmpieaaFnNumber
namespace Go.Proofs.Ytaojoppkkmpieaa.VM
open Go Go.RowKit

set_option maxHeartbeats 4000000 in
theorem Fed_ac (held b : List UInt8) (hb : held.length + b.length ≤ 1048576) : AC Try.prog 24 [.bytes held, .bytes b] Heap.empty (FeedR held b) := by
  refine AC_of_body Try.func24 rfl rfl (Nat.le_of_ble_eq_true rfl) rfl (fun _ hn => ?_)
  refine AW_seq ?_
  refine AW_reg [0, 1, 2] rfl ?_
  refine o_asg rfl rfl ?_  -- t4
  refine o_asg rfl rfl ?_  -- t5
  refine o_asg rfl rfl (OpsW_nil ?_)  -- t6
  refine AW_seq ?_
  refine AW_seq ?_
  refine AW_reg [0, 1, 2] rfl ?_
  refine o_move rfl rfl ?_  -- t10
  refine o_len rfl rfl uBytes rfl ?_  -- t11
  refine o_bin rfl rfl rfl rfl rfl (OpsW_nil ?_)  -- t12
  refine AW_if rfl (fun hc => ?_) (fun hc => ?_)  -- t12
  · refine AW_seq ?_
    refine AW_reg [0, 1, 2] rfl ?_
    refine o_asg rfl rfl ?_
    refine o_asg rfl rfl ?_
    refine o_asg rfl rfl (OpsW_nil ?_)
    exact AW_ret ⟨_, rfl, ret_pos (by omega) rfl⟩
  · have hheld : held.length ≤ 301 := by omega
    have hab : (held ++ b).length = held.length + b.length := by simp
    refine AW_skip ?_
    refine AW_seq ?_
    refine AW_reg [0, 1, 2, 3, 4, 5] rfl ?_
    refine o_move rfl rfl ?_  -- t13 := move(t0)
    refine o_cb (bs := held) rfl rfl uBytes uByte uStr rfl ?_  -- t14 := convert(35 9 t13)
    refine o_move rfl rfl ?_  -- t15 := move(t1)
    refine o_cb (bs := b) rfl rfl uBytes uByte uStr rfl ?_  -- t16 := convert(35 9 t15)
    refine o_cat rfl rfl rfl rfl (by omega) ?_  -- t17 := binOp(add 9 t14 t16 9)
    refine o_asg rfl rfl (OpsW_nil ?_)  -- t7 := assign(t17)
    refine AW_seq ?_
    refine AW_reg [0] rfl ?_
    refine o_asg rfl rfl (OpsW_nil ?_)  -- t8 := assign(const(slice(none 0 0)))
    refine AW_block ?_  -- block 0
    refine AW_loopI (α := FeedP) (fun p => [(7, .txt p.bs), (8, p.v)])
      (FeedI (held ++ b)) (fun p => p.bs.length) rfl ⟨⟨(held ++ b).length, [], held ++ b, .nil⟩, ⟨Row.nil _ 1, Nat.le_refl _, by simp, by simp [feed]⟩, .same _, .same _, trivial⟩ ?_
    rintro ⟨k, ts, bs, v⟩ h n ⟨hrow, hk, hlen, hfd⟩ hlt
    simp only at hrow hk hfd hlen
    refine AW_block ?_  -- block 1
    refine AW_seq ?_
    refine AW_seq ?_
    refine AW_reg [0, 1, 2] rfl ?_
    refine o_move rfl rfl ?_  -- t18 := move(t7)
    refine o_lent rfl rfl uStr rfl ?_  -- t19
    refine o_bin rfl rfl rfl rfl rfl (OpsW_nil ?_)  -- t20 := binOp(lss 3 t19 const(int(i64 2)) 3)
    refine AW_if rfl (fun hc => ?_) (fun hc => ?_)  -- t20
    · simp only at hc
      refine AW_seq ?_
      refine AW_reg [0, 1, 2, 3, 4, 5] rfl ?_
      refine o_move rfl rfl ?_  -- t21 := move(t8)
      refine o_move rfl rfl ?_  -- t22 := move(t7)
      refine o_sb rfl rfl uStr uBytes uByte rfl ?_  -- t23 := convert(9 35 t22)
      intro v1 h1 n1 hr1 hn1 hk1
      obtain ⟨hq1, _⟩ := hrow.old hk1
      refine o_asg rfl rfl ?_  -- t4 := assign(t21)
      refine o_asg rfl rfl ?_  -- t5 := assign(t23)
      refine o_asg rfl rfl (OpsW_nil ?_)  -- t6 := assign(const(int(i64 0)))
      have hf : feed (held ++ b) = some (ts, bs) := by
        rw [← hfd]
        match bs, hc with
        | [], _ => cases k <;> simp [feedF]
        | [_], _ => cases k <;> simp [feedF]
        | x :: y :: rest, hc => simp only [List.length_cons] at hc; omega
      refine AW_ret (endR (.tup [v, v1, .int 0]) h1 rfl rfl (ret_neg (by omega) ?_))
      rw [hf]
      exact ⟨v, v1, rfl, hq1, hr1⟩
    · obtain ⟨x, y, rest, rfl⟩ : ∃ x y rest, bs = x :: y :: rest := by
        simp only at hc
        match bs, hc with
        | [], hc => simp at hc
        | [_], hc => simp at hc
        | x :: y :: rest, _ => exact ⟨x, y, rest, rfl⟩
      obtain ⟨k, rfl⟩ : ∃ k', k = k' + 1 := ⟨k - 1, by simp at hk; omega⟩
      have hx : x.toNat < 256 := x.toNat_lt
      have hy : y.toNat < 256 := y.toNat_lt
      have hnum : num [x, y] % 18446744073709551616 = x.toNat * 256 + y.toNat := by simp [num]; omega
      simp only [List.length_cons] at hlen hk
      obtain ⟨m, hm⟩ : ∃ m, m = x.toNat * 256 + y.toNat := ⟨_, rfl⟩
      have hm2 : m < 65536 := by omega
      refine AW_skip ?_
      refine AW_seq ?_
      refine AW_reg [0, 1, 2, 3, 4] rfl ?_
      refine o_move rfl rfl ?_  -- t24 := move(t7)
      refine o_w rfl rfl (w_cutt (l := 0) (h := 2) (c := [x, y]) rfl uStr rfl (bnd_none _) (bnd_some .i64 rfl) (by omega) (by simp) rfl ?_)  -- t25
      refine o_callf rfl rfl Try.func36 rfl rfl rfl (number_ac [x, y] (by simp)) ?_  -- t26
      rintro r hr n1 rfl hn1 hk1
      have hq1 := hrow.merge hk1
      refine o_ci (m := (m : Int)) rfl rfl uU64 uInt rfl (by rw [hnum, ← hm]; exact wrapi (by omega)) ?_  -- t27 := convert(55 3 t26)
      refine o_asg rfl rfl (OpsW_nil ?_)  -- t9 := assign(t27)
      refine AW_seq ?_
      refine AW_seq ?_
      refine AW_reg [0, 1] rfl ?_
      refine o_move rfl rfl ?_  -- t28 := move(t9)
      refine o_bin rfl rfl rfl rfl rfl (OpsW_nil ?_)  -- t29 := binOp(gtr 3 t28 const(int(i64 300)) 3)
      refine AW_if rfl (fun hg => ?_) (fun hg => ?_)  -- t29
      · refine AW_seq ?_
        refine AW_reg [0, 1, 2] rfl ?_
        refine o_asg rfl rfl ?_
        refine o_asg rfl rfl ?_
        refine o_asg rfl rfl (OpsW_nil ?_)
        have hf : feed (held ++ b) = none := by
          rw [← hfd, feedF, ← hm, if_pos (by omega)]
          rfl
        refine AW_ret (endR (.tup [.nil, .nil, .int 1]) _ rfl rfl (ret_neg (by omega) ?_))
        rw [hf]
      · have hg2 : ¬ m > 300 := by omega
        refine AW_skip ?_
        refine AW_seq ?_
        refine AW_seq ?_
        refine AW_reg [0, 1, 2, 3, 4] rfl ?_
        refine o_move rfl rfl ?_  -- t30 := move(t7)
        refine o_lent rfl rfl uStr rfl ?_  -- t31
        refine o_sub (c := (rest.length : Int)) rfl rfl rfl rfl (by simp only [List.length_cons]; omega) (by omega) ?_  -- t32 := binOp(sub 3 t31 const(int(i64 2)) 3)
        refine o_move rfl rfl ?_  -- t33 := move(t9)
        refine o_bin rfl rfl rfl rfl rfl (OpsW_nil ?_)  -- t34 := binOp(lss 3 t32 t33 3)
        refine AW_if rfl (fun hs => ?_) (fun hs => ?_)  -- t34
        · refine AW_seq ?_
          refine AW_reg [0, 1, 2, 3, 4, 5] rfl ?_
          refine o_move rfl rfl ?_  -- t35 := move(t8)
          refine o_move rfl rfl ?_  -- t36 := move(t7)
          refine o_sb rfl rfl uStr uBytes uByte rfl ?_  -- t37 := convert(9 35 t36)
          intro v1 h1 n1 hr1 hn1 hk1
          obtain ⟨hq2, _⟩ := hq1.old hk1
          refine o_asg rfl rfl ?_
          refine o_asg rfl rfl ?_
          refine o_asg rfl rfl (OpsW_nil ?_)
          have hf : feed (held ++ b) = some (ts, x :: y :: rest) := by
            rw [← hfd, feedF, ← hm, if_neg hg2, if_pos (by omega)]
            simp
          refine AW_ret (endR (.tup [v, v1, .int 0]) h1 rfl rfl (ret_neg (by omega) ?_))
          rw [hf]
          exact ⟨v, v1, rfl, hq2, hr1⟩
        · have hl : m ≤ rest.length := by omega
          refine AW_skip ?_
          refine AW_st [(8, v), (7, .txt (x :: y :: rest)), (9, .int m)] (h.merge hr) rfl rfl ⟨rfl, rfl, rfl, trivial⟩ (fun n1 hn1 => ?_)
          refine AW_draw [(8, v), (7, .txt (x :: y :: rest)), (9, .int m)] (fun k => ([none, none, none, none, none, some 5, some 6, none, none, none, none, some 6, none] : List (Option Nat)).getD k none)
            (fun k => ([v, .txt (x :: y :: rest), .int m, .int (2 + m : Nat), .txt (rest.take m), .any, .any, .txt (x :: y :: rest), .int m, .int (2 + m : Nat), .txt (rest.drop m), .any, .txt (rest.drop m)] : List AV).getD k .any)
            (fun k => ([[(8, none)], [(7, none)], [(9, none)], [(40, some 2)], [(39, some 1), (41, some 3)], [(42, some 4)], [(38, some 0), (43, some 5)], [(7, none)], [(9, none)], [(46, some 8)], [(45, some 7), (47, some 9)], [(44, some 6)], [(48, some 10)]] : List (List (Nat × Option Nat))).getD k [])
            [(8, some 11), (7, some 12)]
            (fun D e h => (D 6 = true → D 5 = true) ∧ (D 6 = false → Row h v (ts.map .txt) ts.length 1) ∧ (D 5 = true → D 6 = false → Row h (e 5) [.txt (rest.take m)] 1 1 ∧ sep v (e 5)) ∧ (D 6 = true → Row h (e 6) (ts.map .txt ++ [.txt (rest.take m)]) (ts.length + 1) 1))
            rfl mixed (by kernel_rfl) ⟨rfl, rfl, rfl, trivial⟩ hn1 ⟨fun h => (by cases h), fun _ => hq1, fun h => (by cases h), fun h => (by cases h)⟩
            (a_op ?_ (a_op ?_ (a_op ?_ (a_op ?_ (a_op ?_ (a_op ?_ (a_op ?_ (a_op ?_ (a_op ?_ (a_op ?_ (a_op ?_ (a_op ?_ (a_op ?_ (a_nil)))))))))))))) ?_
          · exact fun D e h n hD hdep hH hlt => w_move rfl ⟨_, h, n, rfl, rfl, hH, hlt⟩  -- t38 := move(t8)
          · exact fun D e h n hD hdep hH hlt => w_move rfl ⟨_, h, n, rfl, rfl, hH, hlt⟩  -- t39 := move(t7)
          · exact fun D e h n hD hdep hH hlt => w_move rfl ⟨_, h, n, rfl, rfl, hH, hlt⟩  -- t40 := move(t9)
          · exact fun D e h n hD hdep hH hlt => w_add (c := ((2 + m : Nat) : Int)) rfl rfl rfl (by omega) (by omega) ⟨_, h, n, rfl, rfl, hH, hlt⟩  -- t41
          · exact fun D e h n hD hdep hH hlt => w_cutt (l := 2) (h := 2 + m) (c := rest.take m) rfl uStr rfl (bnd_some .i64 rfl) (bnd_some .i64 rfl) (by omega) (by simp only [List.length_cons]; omega) (by rw [show 2 + m - 2 = m by omega]; rfl) ⟨_, h, n, rfl, rfl, hH, hlt⟩  -- t42
          · intro D e h n hD hdep hH hlt
            refine w_bs (cs := [.txt (rest.take m)]) rfl uTexts iStr rfl (by kernel_rfl) (by decide) (by decide) rfl rfl ?_
            intro v' h' n' hr' hn' hk'
            have h6 : D 6 = false := by
              rcases Bool.eq_false_or_eq_true (D 6) with h | h
              · have := hH.1 h
                rw [hD] at this
                cases this
              · exact h
            obtain ⟨hq, hs⟩ := (hH.2.1 h6).old hk'
            exact ⟨v', h', n', rfl, rfl, ⟨fun _ => rfl, fun _ => hq, fun _ _ => ⟨hr', hs⟩, fun h => by (have : D 6 = true := h); rw [h6] at this; cases this⟩, hn'⟩
          · intro D e h n hD hdep hH hlt
            have h5 : D 5 = true := hdep ⟨5, .data⟩ (by simp) rfl
            obtain ⟨hr5, hs5⟩ := hH.2.2.1 h5 hD
            refine w_app rfl uTexts uTexts iStr rfl (hH.2.1 hD) hr5.cont hr5.1 hr5.nostr (by omega) (by omega) ?_
            intro v' h' n' hr' hn' hk'
            exact ⟨v', h', n', rfl, rfl, ⟨fun _ => h5, (fun h => by cases h), (fun _ h => by cases h), fun _ => hr'⟩, hn'⟩
          · exact fun D e h n hD hdep hH hlt => w_move rfl ⟨_, h, n, rfl, rfl, hH, hlt⟩  -- t45 := move(t7)
          · exact fun D e h n hD hdep hH hlt => w_move rfl ⟨_, h, n, rfl, rfl, hH, hlt⟩  -- t46 := move(t9)
          · exact fun D e h n hD hdep hH hlt => w_add (c := ((2 + m : Nat) : Int)) rfl rfl rfl (by omega) (by omega) ⟨_, h, n, rfl, rfl, hH, hlt⟩  -- t47
          · exact fun D e h n hD hdep hH hlt => w_cutt (l := 2 + m) (h := (x :: y :: rest).length) (c := rest.drop m) rfl uStr rfl (bnd_some .i64 rfl) (bnd_none _) (by simp only [List.length_cons]; omega) (Nat.le_refl _) (by rw [List.take_of_length_le (by simp), ← List.drop_drop]; rfl) ⟨_, h, n, rfl, rfl, hH, hlt⟩  -- t48
          · exact fun D e h n hD hdep hH hlt => w_asg rfl ⟨_, h, n, rfl, rfl, hH, hlt⟩  -- t8 := assign(t44)
          · exact fun D e h n hD hdep hH hlt => w_asg rfl ⟨_, h, n, rfl, rfl, hH, hlt⟩  -- t7 := assign(t48)
          rintro e h n hH hlt
          refine ⟨rfl, ⟨k, ts ++ [rest.take m], rest.drop m, e 6⟩, ⟨(hH.2.2.2 rfl).eqTo (by simp) (by simp), ?_, ?_, ?_⟩, ?_, .same _, .same _, trivial⟩
          · simp; omega
          · simp; omega
          · rw [← hfd, feedF, ← hm, if_neg hg2, if_neg (by omega)]
            simp only [Option.map_map]
            congr 1
            funext p
            simp
          · simp; omega
end Go.Proofs.Ytaojoppkkmpieaa.VM
