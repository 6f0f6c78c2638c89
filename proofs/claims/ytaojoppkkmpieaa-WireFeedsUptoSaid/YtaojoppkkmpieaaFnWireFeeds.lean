/- WireFeeds answers true, whatever it is handed of bulk at most 1048576. -/
import Derived.Test.YtaojoppkkmpieaaFnFed
import Derived.Test.YtaojoppkkmpieaaFnSameTexts
import Derived.Test.YtaojoppkkmpieaaFnSameBytes
namespace Go.Proofs.Ytaojoppkkmpieaa.VM
open Go Go.RowKit

def feedRes (held b : List UInt8) : Int × List (List UInt8) × List UInt8 :=
  if held.length > 301 then (11, [], []) else match feed (held ++ b) with
    | none => (1, [], [])
    | some (ts, rest) => (0, ts, rest)

theorem FeedR.uni {held b : List UInt8} {r : AV} {h : Heap} (f : FeedR held b r h) : ∃ x y, r = .tup [x, y, .int (feedRes held b).1] ∧ Row h x ((feedRes held b).2.1.map .txt) (feedRes held b).2.1.length 1 ∧ Row h y (bcells (feedRes held b).2.2) (feedRes held b).2.2.length 1 := by
  unfold FeedR at f
  unfold feedRes
  split at f
  · rename_i hc
    rw [if_pos hc]
    exact ⟨.nil, .nil, f, Row.nil _ _, Row.nil _ _⟩
  · rename_i hc
    rw [if_neg hc]
    split at f
    · rename_i hf
      simp only [hf]
      exact ⟨.nil, .nil, f, Row.nil _ _, Row.nil _ _⟩
    · rename_i ts rest hf
      simp only [hf]
      exact f

theorem feedF_len : ∀ (k : Nat) (bs : List UInt8) (ts : List (List UInt8)) (r : List UInt8), feedF k bs = some (ts, r) → ts.length ≤ k
  | 0, bs, ts, r, h => by
    simp only [feedF, Option.some.injEq, Prod.mk.injEq] at h
    rw [← h.1]; simp
  | k + 1, [], ts, r, h => by
    simp only [feedF, Option.some.injEq, Prod.mk.injEq] at h
    rw [← h.1]; simp
  | k + 1, [_], ts, r, h => by
    simp only [feedF, Option.some.injEq, Prod.mk.injEq] at h
    rw [← h.1]; simp
  | k + 1, x :: y :: rest, ts, r, h => by
    rw [feedF] at h
    split at h
    · cases h
    · split at h
      · simp only [Option.some.injEq, Prod.mk.injEq] at h
        rw [← h.1]; simp
      · obtain ⟨⟨ts', r'⟩, h1, h2⟩ := Option.map_eq_some_iff.1 h
        simp only [Prod.mk.injEq] at h2
        have := feedF_len k _ ts' r' h1
        rw [← h2.1, List.length_cons]
        omega

theorem feedRes_len (held b : List UInt8) : (feedRes held b).2.1.length ≤ held.length + b.length := by
  unfold feedRes
  split
  · simp
  · split
    · simp
    · rename_i ts rest hf
      have := feedF_len _ _ _ _ hf
      simpa using this

theorem txt_noLst (l : List (List UInt8)) : (l.map AV.txt).all noLst1 = true := by simp [noLst1]
theorem bcells_noLst (l : List UInt8) : (bcells l).all noLst1 = true := by simp [bcells, noLst1]

theorem WireFeeds_ac (held b : List UInt8) (hb : held.length + b.length ≤ 1048576) : AC Try.prog 8 [.bytes held, .bytes b] Heap.empty (fun r _ => r = .bool true) := by
  refine AC_of_body Try.func8 rfl rfl (Nat.le_of_ble_eq_true rfl) rfl (fun _ hn => ?_)
  refine AW_seq ?_
  refine AW_reg [0] rfl ?_
  refine o_asg rfl rfl (OpsW_nil ?_)  -- t4
  refine AW_seq ?_
  refine AW_reg [0, 1, 2, 3, 4, 5, 6, 7, 8, 9] rfl ?_
  refine o_move rfl rfl ?_  -- t12
  refine o_move rfl rfl ?_  -- t13
  refine o_callf rfl rfl Try.func23 rfl rfl rfl (Feed_ac held b hb) ?_  -- t14
  rintro r1 h1 n1 hR1 hn1 hk1
  obtain ⟨x1, y1, rfl, hx1, hy1⟩ := hR1.uni
  refine o_move rfl rfl ?_  -- t11
  refine o_ext rfl rfl rfl rfl ?_  -- t15
  refine o_ext rfl rfl rfl rfl ?_  -- t16
  refine o_ext rfl rfl rfl rfl ?_  -- t17
  refine o_asg rfl rfl ?_  -- t5
  refine o_asg rfl rfl ?_  -- t6
  refine o_asg rfl rfl (OpsW_nil ?_)  -- t7
  refine AW_seq ?_
  refine AW_reg [0, 1, 2, 3, 4, 5, 6, 7, 8, 9] rfl ?_
  refine o_move rfl rfl ?_  -- t19
  refine o_move rfl rfl ?_  -- t20
  refine o_callf rfl rfl Try.func24 rfl rfl rfl (Fed_ac held b hb) ?_  -- t21
  rintro r2 h2 n2 hR2 hn2 hk2
  obtain ⟨x2, y2, rfl, hx2, hy2⟩ := hR2.uni
  refine o_move rfl rfl ?_  -- t18
  refine o_ext rfl rfl rfl rfl ?_  -- t22
  refine o_ext rfl rfl rfl rfl ?_  -- t23
  refine o_ext rfl rfl rfl rfl ?_  -- t24
  refine o_asg rfl rfl ?_  -- t8
  refine o_asg rfl rfl ?_  -- t9
  refine o_asg rfl rfl (OpsW_nil ?_)  -- t10
  have qx1 := (hx1.into (h := Heap.empty)).merge hk2
  have qy1 := (hy1.into (h := Heap.empty)).merge hk2
  have qx2 := hx2.into (h := Heap.empty.merge h1)
  have qy2 := hy2.into (h := Heap.empty.merge h1)
  refine AW_seq ?_
  refine AW_st (N := 38) [(5, x1), (6, y1), (7, .int (feedRes held b).1), (8, x2), (9, y2), (10, .int (feedRes held b).1)] ((Heap.empty.merge h1).merge h2) rfl rfl ⟨rfl, rfl, rfl, rfl, rfl, rfl, trivial⟩ (fun n3 hn3 => ?_)
  have hlen := feedRes_len held b
  generalize hts : (feedRes held b).2.1 = ts at *
  generalize hbs : (feedRes held b).2.2 = bs at *
  generalize hee : (feedRes held b).1 = er at *
  generalize (Heap.empty.merge h1).merge h2 = hh at *
  refine AW_reg [0, 1, 2, 3, 4, 5, 6, 7, 8, 9, 10, 11, 12, 13] rfl ?_
  refine o_move rfl rfl ?_  -- t25
  refine o_move rfl rfl ?_  -- t26
  refine o_bin (v := .bool true) rfl rfl rfl rfl (by simp [ibin]) ?_  -- t27
  refine o_move rfl rfl ?_  -- t28
  refine o_on rfl rfl rfl rfl rfl (OpW_move rfl ?_)  -- t29
  refine o_on rfl rfl rfl rfl rfl (OpW_move rfl ?_)  -- t30
  refine o_on rfl rfl rfl rfl rfl (OpW_call (f := 25) (caps := []) (args := [x1, x2]) rfl Try.func25 rfl rfl rfl
    ((sameTexts_ac ts ts (by omega)).lend rfl (lent2 qx1.lent qx2.lent) (fun r hr hh => by rw [hh]; rfl)) rfl ?_)
  rintro _ h3 n3 ⟨hr3, rfl, rfl, hk3⟩ _ _ _
  refine o_pick (v := .bool true) rfl rfl rfl (by simp only [beq_self_eq_true]; rfl) ?_  -- t32
  refine o_move rfl rfl ?_  -- t33
  refine o_on rfl rfl rfl rfl rfl (OpW_move rfl ?_)  -- t34
  refine o_on rfl rfl rfl rfl rfl (OpW_move rfl ?_)  -- t35
  have hk3' : ∀ b, hr3.clean b ≠ none → hh b = none := fun b hb => hk3 b (Heap.clean_ne hb)
  refine o_on rfl rfl rfl rfl rfl (OpW_call (f := 22) (caps := []) (args := [y1, y2]) rfl Try.func22 rfl rfl rfl
    ((sameBytes_ac bs bs).lend rfl (lent2 (qy1.merge hk3').lent (qy2.merge hk3').lent) (fun r hr hh => by rw [hh]; rfl)) rfl ?_)
  rintro _ h4 n4 ⟨hr4, rfl, _, _⟩ _ _ _
  refine o_pick (v := .bool true) rfl rfl rfl (by simp only [beq_self_eq_true]; rfl) ?_  -- t37
  refine o_asg rfl rfl (OpsW_nil ?_)  -- t4
  exact AW_ret ⟨_, rfl, rfl⟩
end Go.Proofs.Ytaojoppkkmpieaa.VM
