/- wire.Feed: the texts that are whole, and what is left. -/
import Derived.Test.YtaojoppkkmpieaaVmBits
namespace Go.Proofs.Ytaojoppkkmpieaa.VM
open Go Go.RowKit

def feedF : Nat → List UInt8 → Option (List (List UInt8) × List UInt8)
  | k + 1, a :: b :: rest => if a.toNat * 256 + b.toNat > 300 then none else if rest.length < a.toNat * 256 + b.toNat then some ([], a :: b :: rest)
    else (feedF k (rest.drop (a.toNat * 256 + b.toNat))).map fun x => (rest.take (a.toNat * 256 + b.toNat) :: x.1, x.2)
  | _, bs => some ([], bs)
def feed (all : List UInt8) : Option (List (List UInt8) × List UInt8) := feedF all.length all

def FeedR (held b : List UInt8) (r : AV) (h : Heap) : Prop :=
  if held.length > 301 then r = .tup [.nil, .nil, .int 11] else match feed (held ++ b) with
    | none => r = .tup [.nil, .nil, .int 1]
    | some (ts, rest) => ∃ v1 v2, r = .tup [v1, v2, .int 0] ∧ Row h v1 (ts.map .txt) ts.length 1 ∧ Row h v2 (bcells rest) rest.length 1

structure FeedP where
  k : Nat
  ts : List (List UInt8)
  bs : List UInt8
  v : AV

def FeedI (all : List UInt8) (p : FeedP) (h : Heap) : Prop :=
  Row h p.v (p.ts.map .txt) p.ts.length 1 ∧ p.bs.length ≤ p.k ∧ p.bs.length + p.ts.length * 2 ≤ all.length ∧ (feedF p.k p.bs).map (fun x => (p.ts ++ x.1, x.2)) = feed all

set_option maxHeartbeats 4000000 in
theorem Feed_ac (held b : List UInt8) (hb : held.length + b.length ≤ 1048576) : AC Try.prog 23 [.bytes held, .bytes b] Heap.empty (FeedR held b) := by
  refine AC_of_body Try.func23 rfl rfl (Nat.le_of_ble_eq_true rfl) rfl (fun _ hn => ?_)
  refine AW_seq ?_
  refine AW_reg [0, 1, 2] rfl ?_
  refine o_asg rfl rfl ?_  -- t4 := assign(const(slice(none 0 0)))
  refine o_asg rfl rfl ?_  -- t5 := assign(const(slice(none 0 0)))
  refine o_asg rfl rfl (OpsW_nil ?_)  -- t6 := assign(const(int(i64 0)))
  refine AW_seq ?_
  refine AW_seq ?_
  refine AW_reg [0, 1, 2] rfl ?_
  refine o_move rfl rfl ?_  -- t10 := move(t0)
  refine o_len rfl rfl uBytes rfl ?_  -- t11 := call({callee:=builtin(len), args:=[t10], argTypes:=[35]})
  refine o_bin rfl rfl rfl rfl rfl (OpsW_nil ?_)  -- t12 := binOp(gtr 3 t11 const(int(i64 301)) 3)
  refine AW_if rfl (fun hc => ?_) (fun hc => ?_)  -- t12
  · refine AW_seq ?_
    refine AW_reg [0, 1, 2] rfl ?_
    refine o_asg rfl rfl ?_  -- t4 := assign(const(slice(none 0 0)))
    refine o_asg rfl rfl ?_  -- t5 := assign(const(slice(none 0 0)))
    refine o_asg rfl rfl (OpsW_nil ?_)  -- t6 := assign(const(int(i64 11)))
    exact AW_ret ⟨_, rfl, ret_pos (by omega) rfl⟩
  · have hheld : held.length ≤ 301 := by omega
    refine AW_skip ?_
    refine AW_seq ?_
    refine AW_reg [0, 1, 2, 3, 4, 5] rfl ?_
    refine o_bs0 rfl rfl uBytes iByte ?_  -- t13 := buildSlice(35 0 [])
    intro v1 h1 n1 hr1 hn1 hk1
    refine o_move rfl rfl ?_  -- t14 := move(t0)
    refine o_app rfl rfl uBytes uBytes iByte rfl hr1 (ys := bcells held) rfl (by simp [bcells_length]) (fun _ => AV.noConfusion) (by omega) (by omega) ?_
    intro v2 h2 n2 hr2 hn2 hk2
    refine o_move rfl rfl ?_  -- t16 := move(t1)
    refine o_app rfl rfl uBytes uBytes iByte rfl hr2 (ys := bcells b) rfl (by simp [bcells_length]) (fun _ => AV.noConfusion) (by omega) (by omega) ?_
    intro v3 h3 n3 hr3 hn3 hk3
    refine o_asg rfl rfl (OpsW_nil ?_)  -- t7 := assign(t17)
    have hr4 : Row h3 v3 (bcells (held ++ b)) (held ++ b).length 1 := hr3.eqTo (by simp [bcells_append]) (by simp)
    refine AW_pubRow (d := 7) [(0, .bytes held)] rfl hr4 ⟨rfl, trivial⟩ rfl (fun h4 n4 hn4 _ => ?_)
    refine AW_seq ?_
    refine AW_reg [0] rfl ?_
    refine o_asg rfl rfl (OpsW_nil ?_)  -- t8 := assign(const(slice(none 0 0)))
    refine AW_seqM (fun s' => ∃ ts bs v, Is 54 [(7, .bytes bs), (8, v)] s' ∧ Row s'.h v (ts.map .txt) ts.length 1 ∧ feed (held ++ b) = some (ts, bs) ∧ bs.length ≤ (held ++ b).length) ?_ ?_
    · refine AW_block ?_  -- block 0
      refine AW_loopI (α := FeedP) (fun p => [(7, .bytes p.bs), (8, p.v)])
        (FeedI (held ++ b)) (fun p => p.bs.length) rfl ⟨⟨(held ++ b).length, [], held ++ b, .nil⟩, ⟨Row.nil _ 1, Nat.le_refl _, by simp, by simp [feed]⟩, .same _, .same _, trivial⟩ ?_
      rintro ⟨k, ts, bs, v⟩ h n ⟨hrow, hk, hlen, hfd⟩ hlt
      simp only at hrow hk hfd hlen
      refine AW_seq ?_
      refine AW_seq ?_
      refine AW_reg [0, 1, 2] rfl ?_
      refine o_move rfl rfl ?_  -- t18 := move(t7)
      refine o_len rfl rfl uBytes rfl ?_  -- t19 := call({callee:=builtin(len), args:=[t18], argTypes:=[35]})
      refine o_bin rfl rfl rfl rfl rfl (OpsW_nil ?_)  -- t20 := binOp(geq 3 t19 const(int(i64 2)) 3)
      refine AW_if rfl (fun hc => ?_) (fun hc => ?_)  -- t20
      · obtain ⟨x, y, rest, rfl⟩ : ∃ x y rest, bs = x :: y :: rest := by
          match bs, hc with
          | [], hc => simp at hc
          | [_], hc => simp at hc
          | x :: y :: rest, _ => exact ⟨x, y, rest, rfl⟩
        obtain ⟨k, rfl⟩ : ∃ k', k = k' + 1 := ⟨k - 1, by simp at hk; omega⟩
        have h0 : 0 < (x :: y :: rest).length := by simp
        have h1 : 1 < (x :: y :: rest).length := by simp
        have hx : x.toNat < 256 := x.toNat_lt
        have hy : y.toNat < 256 := y.toNat_lt
        refine AW_skip ?_
        refine AW_block ?_  -- block 1
        refine AW_seq ?_
        refine AW_draw [(7, .bytes (x :: y :: rest)), (8, v)] (fun k => ([none, none, none, none, none, none, none, none, none, none, none] : List (Option Nat)).getD k none)
          (fun k => ([.bytes (x :: y :: rest), .rptr (bcells (x :: y :: rest)) 0, .u8 x.toNat, .int x.toNat, .int (x.toNat * 256 : Nat), .bytes (x :: y :: rest), .rptr (bcells (x :: y :: rest)) 1, .u8 y.toNat, .int y.toNat, .int (x.toNat * 256 + y.toNat : Nat), .int (x.toNat * 256 + y.toNat : Nat)] : List AV).getD k .any)
          (fun k => ([[(7, none)], [(21, some 0)], [(22, some 1)], [(23, some 2)], [(24, some 3)], [(7, none)], [(26, some 5)], [(27, some 6)], [(28, some 7)], [(25, some 4), (29, some 8)], [(30, some 9)]] : List (List (Nat × Option Nat))).getD k [])
          [(9, some 10), (7, none), (8, none)]
          (fun D e h => Row h v (ts.map .txt) ts.length 1) rfl mixed (by kernel_rfl) ⟨rfl, rfl, trivial⟩ hlt hrow (a_op ?_ (a_op ?_ (a_op ?_ (a_op ?_ (a_op ?_ (a_op ?_ (a_op ?_ (a_op ?_ (a_op ?_ (a_op ?_ (a_op ?_ (a_nil)))))))))))) ?_
        · exact fun D e h n hD hdep hH hlt => w_move rfl ⟨_, h, n, rfl, rfl, hH, hlt⟩  -- t21 := move(t7)
        · exact fun D e h n hD hdep hH hlt => w_ixl (i' := 0) rfl uBytes zByte rfl rfl rfl h0 (bcells_ne h0) ⟨_, h, n, rfl, rfl, hH, hlt⟩  -- t22 := indexAddr(35 t21 const(int(i64 0)))
        · exact fun D e h n hD hdep hH hlt => w_ld (c := .u8 x.toNat) rfl uByte rfl rfl rfl ⟨_, h, n, rfl, rfl, hH, hlt⟩  -- t23 := load(5 t22)
        · exact fun D e h n hD hdep hH hlt => w_ci rfl uByte uInt rfl (wrapi (by omega)) ⟨_, h, n, rfl, rfl, hH, hlt⟩  -- t24 := convert(5 3 t23)
        · exact fun D e h n hD hdep hH hlt => w_shift (c := ((x.toNat * 256 : Nat) : Int)) rfl rfl rfl (.inl rfl) (by decide) (shl_nat x.toNat 8 (by decide) (by simp; omega)) ⟨_, h, n, rfl, rfl, hH, hlt⟩  -- t25 := binOp(shl 3 t24 const(int(u64 8)) 53)
        · exact fun D e h n hD hdep hH hlt => w_move rfl ⟨_, h, n, rfl, rfl, hH, hlt⟩  -- t26 := move(t7)
        · exact fun D e h n hD hdep hH hlt => w_ixl (i' := 1) rfl uBytes zByte rfl rfl rfl h1 (bcells_ne h1) ⟨_, h, n, rfl, rfl, hH, hlt⟩  -- t27 := indexAddr(35 t26 const(int(i64 1)))
        · exact fun D e h n hD hdep hH hlt => w_ld (c := .u8 y.toNat) rfl uByte rfl rfl rfl ⟨_, h, n, rfl, rfl, hH, hlt⟩  -- t28 := load(5 t27)
        · exact fun D e h n hD hdep hH hlt => w_ci rfl uByte uInt rfl (wrapi (by omega)) ⟨_, h, n, rfl, rfl, hH, hlt⟩  -- t29 := convert(5 3 t28)
        · exact fun D e h n hD hdep hH hlt => w_bin (v := .int .i64 ((x.toNat * 256 + y.toNat : Nat) : Int)) rfl rfl rfl (by simp only [ibin]; rw [bits_or_i64 _ _ (by omega) (by omega), or_bytes _ _ hy]) ⟨_, h, n, rfl, rfl, hH, hlt⟩  -- t30 := binOp(or 3 t25 t29 3)
        · exact fun D e h n hD hdep hH hlt => w_asg rfl ⟨_, h, n, rfl, rfl, hH, hlt⟩  -- t9 := assign(t30)
        rintro e h n hrow hlt
        refine AW_seq ?_
        refine AW_seq ?_
        refine AW_reg [0, 1] rfl ?_
        refine o_move rfl rfl ?_  -- t31 := move(t9)
        refine o_bin rfl rfl rfl rfl rfl (OpsW_nil ?_)  -- t32 := binOp(gtr 3 t31 const(int(i64 300)) 3)
        refine AW_if rfl (fun hg => ?_) (fun hg => ?_)  -- t32
        · refine AW_seq ?_
          refine AW_reg [0, 1, 2] rfl ?_
          refine o_asg rfl rfl ?_  -- t4 := assign(const(slice(none 0 0)))
          refine o_asg rfl rfl ?_  -- t5 := assign(const(slice(none 0 0)))
          refine o_asg rfl rfl (OpsW_nil ?_)  -- t6 := assign(const(int(i64 1)))
          refine AW_ret ⟨_, rfl, ?_⟩
          have hf : feed (held ++ b) = none := by
            rw [← hfd, feedF, if_pos (by omega)]
            rfl
          refine ret_neg (by omega) ?_
          rw [hf]
          rfl
        · have hg2 : ¬ x.toNat * 256 + y.toNat > 300 := by omega
          simp only [List.length_cons] at hlen hk
          have hle : (held ++ b).length ≤ 1048576 := by simp; omega
          refine AW_skip ?_
          refine AW_seq ?_
          refine AW_seq ?_
          refine AW_reg [0, 1, 2, 3, 4] rfl ?_
          refine o_move rfl rfl ?_  -- t33 := move(t7)
          refine o_len rfl rfl uBytes rfl ?_  -- t34 := call({callee:=builtin(len), args:=[t33], argTypes:=[35]})
          refine o_move rfl rfl ?_  -- t35 := move(t9)
          refine o_add rfl rfl rfl rfl (c := ((2 + (x.toNat * 256 + y.toNat) : Nat) : Int)) (by omega) (by omega) ?_  -- t36 := binOp(add 3 const(int(i64 2)) t35 3)
          refine o_bin rfl rfl rfl rfl rfl (OpsW_nil ?_)  -- t37 := binOp(lss 3 t34 t36 3)
          refine AW_if rfl (fun hs => ?_) (fun hs => ?_)  -- t37
          · simp only [List.length_cons] at hs
            refine AW_exit ?_  -- exit 0
            refine ⟨ts, x :: y :: rest, v, ⟨rfl, ⟨.same _, .same _, trivial⟩, hlt⟩, hrow, ?_, by simp only [List.length_cons]; omega⟩
            rw [← hfd, feedF, if_neg hg2, if_pos (by omega)]
            simp
          · simp only [List.length_cons] at hs
            refine AW_skip ?_
            refine AW_seq ?_
            refine AW_reg [0, 1, 2, 3, 4, 5, 6, 7, 8] rfl ?_
            refine o_move rfl rfl ?_  -- t38 := move(t8)
            refine o_move rfl rfl ?_  -- t39 := move(t7)
            refine o_move rfl rfl ?_  -- t40 := move(t9)
            refine o_add rfl rfl rfl rfl (c := ((2 + (x.toNat * 256 + y.toNat) : Nat) : Int)) (by omega) (by omega) ?_  -- t41
            refine o_w rfl rfl (w_cutb (l := 2) (h := 2 + (x.toNat * 256 + y.toNat)) (c := rest.take (x.toNat * 256 + y.toNat)) rfl uBytes zByte rfl (bnd_some .i64 rfl) (bnd_some .i64 rfl) (by omega) (by simp only [List.length_cons]; omega) (by rw [show 2 + (x.toNat * 256 + y.toNat) - 2 = x.toNat * 256 + y.toNat by omega]; rfl) ?_)
            refine o_cb (bs := rest.take (x.toNat * 256 + y.toNat)) rfl rfl uBytes uByte uStr rfl ?_  -- t43
            refine o_bs (cs := [.txt (rest.take (x.toNat * 256 + y.toNat))]) rfl rfl uTexts iStr rfl (by kernel_rfl) (by decide) (by decide) rfl rfl ?_  -- t44
            intro v5 h5 n5 hr5 hn5 hk5
            obtain ⟨hq5, hs5⟩ := hrow.old hk5
            refine o_app rfl rfl uTexts uTexts iStr rfl hq5 hr5.cont hr5.1 hr5.nostr (by omega) (by omega) ?_  -- t45
            intro v6 h6 n6 hr6 hn6 hk6
            refine o_asg rfl rfl (OpsW_nil ?_)  -- t8 := assign(t45)
            refine AW_reg [0, 1, 2, 3, 4] rfl ?_
            refine o_move rfl rfl ?_  -- t46 := move(t7)
            refine o_move rfl rfl ?_  -- t47 := move(t9)
            refine o_add rfl rfl rfl rfl (c := ((2 + (x.toNat * 256 + y.toNat) : Nat) : Int)) (by omega) (by omega) ?_  -- t48
            refine o_w rfl rfl (w_cutb (l := 2 + (x.toNat * 256 + y.toNat)) (h := (x :: y :: rest).length) (c := rest.drop (x.toNat * 256 + y.toNat)) rfl uBytes zByte rfl (bnd_some .i64 rfl) (bnd_none _) (by simp only [List.length_cons]; omega) (Nat.le_refl _) (by rw [List.take_of_length_le (by simp), ← List.drop_drop]; rfl) ?_)
            refine o_asg rfl rfl (OpsW_nil ?_)  -- t7 := assign(t49)
            refine ⟨rfl, ⟨k, ts ++ [rest.take (x.toNat * 256 + y.toNat)], rest.drop (x.toNat * 256 + y.toNat), v6⟩, ⟨hr6.eqTo (by simp) (by simp), ?_, ?_, ?_⟩, ?_, .same _, .same _, trivial⟩
            · simp; omega
            · have hab : (held ++ b).length = held.length + b.length := by simp
              simp; omega
            · rw [← hfd, feedF, if_neg hg2, if_neg (by omega)]
              simp only [Option.map_map]
              congr 1
              funext p
              simp
            · simp; omega
      · refine AW_exit ?_  -- exit 0
        refine ⟨ts, bs, v, ⟨rfl, ⟨.same _, .same _, trivial⟩, hlt⟩, hrow, ?_, by omega⟩
        rw [← hfd]
        match bs, hc with
        | [], _ => cases k <;> simp [feedF]
        | [_], _ => cases k <;> simp [feedF]
        | x :: y :: rest, hc => simp only [List.length_cons] at hc; omega
    · rintro s' ⟨ts, bs, v, his, hrow, hf, hbl⟩
      have hle : (held ++ b).length ≤ 1048576 := by simp; omega
      refine AW_is his (fun hlt => ?_)
      refine AW_seq ?_
      refine AW_reg [0, 1, 2, 3, 4, 5, 6] rfl ?_
      refine o_move rfl rfl ?_  -- t50 := move(t8)
      refine o_bs0 rfl rfl uBytes iByte ?_  -- t51 := buildSlice(35 0 [])
      intro v1 h1 n1 hr1 hn1 hk1
      obtain ⟨hq1, hs1⟩ := hrow.old hk1
      refine o_move rfl rfl ?_  -- t52 := move(t7)
      refine o_app rfl rfl uBytes uBytes iByte rfl hr1 (ys := bcells bs) rfl (by simp [bcells_length]) (fun _ => AV.noConfusion) (by omega) (by omega) ?_  -- t53
      intro v2 h2 n2 hr2 hn2 hk2
      obtain ⟨hq2, _⟩ := hq1.other hs1 hk2
      refine o_asg rfl rfl ?_  -- t4 := assign(t50)
      refine o_asg rfl rfl ?_  -- t5 := assign(t53)
      refine o_asg rfl rfl (OpsW_nil ?_)  -- t6 := assign(const(int(i64 0)))
      refine AW_ret ⟨_, rfl, ret_neg (by omega) ?_⟩
      rw [hf]
      exact ⟨v, v2, rfl, hq2, hr2.eqTo (by simp) (by simp)⟩
end Go.Proofs.Ytaojoppkkmpieaa.VM
