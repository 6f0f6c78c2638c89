/- wire.Pack: the texts, each behind its length. -/
import Derived.Test.YtaojoppkkmpieaaVmData
namespace Go.Proofs.Ytaojoppkkmpieaa.VM
open Go Go.RowKit

/-- A text behind its length. -/
def packT (t : List UInt8) : List UInt8 := [UInt8.ofNat (t.length / 256), UInt8.ofNat t.length] ++ t
def packL (l : List (List UInt8)) : List UInt8 := l.flatMap packT
def packOk (l : List (List UInt8)) : Bool := decide (l.length ≤ 40) && l.all fun t => decide (t.length ≤ 300)

theorem packL_len : ∀ (l : List (List UInt8)), (∀ t ∈ l, t.length ≤ 300) → (packL l).length ≤ 302 * l.length
  | [], _ => by simp [packL]
  | t :: l, h => by
    have h1 := packL_len l (fun t ht => h t (List.mem_cons_of_mem _ ht))
    have h2 := h t List.mem_cons_self
    simp only [packL, List.flatMap_cons, List.length_append, packT, List.length_cons, List.length_nil] at h1 ⊢
    omega

theorem packL_take {l : List (List UInt8)} {i : Nat} (h : i < l.length) : packL (l.take (i + 1)) = packL (l.take i) ++ packT l[i] := by
  rw [take_snoc h]
  simp only [packL, List.flatMap_append, List.flatMap_cons, List.flatMap_nil, List.append_nil]

theorem pack_ac (l : List (List UInt8)) (hl : l.length ≤ 4611686018427387904) : AC Try.prog 20 [.texts l] Heap.empty
    (fun r h => if packOk l then ∃ v, r = .tup [v, .int 0] ∧ Row h v (bcells (packL l)) (packL l).length 1 else r = .tup [.nil, .int 1]) := by
  refine AC_of_body Try.func20 rfl rfl (Nat.le_of_ble_eq_true rfl) rfl (fun n hn => ?_)
  refine AW_seq (AW_reg [0, 1] rfl ?_)
  refine o_asg rfl rfl ?_
  refine o_asg rfl rfl (OpsW_nil ?_)
  refine AW_seq (AW_seq (AW_reg [0, 1, 2] rfl ?_))
  refine o_move rfl rfl ?_
  refine o_len rfl rfl uTexts rfl ?_
  refine o_bin rfl rfl rfl rfl rfl (OpsW_nil ?_)
  refine AW_if rfl (fun hc => ?_) (fun hc => ?_)
  · refine AW_seq (AW_reg [0, 1] rfl ?_)
    refine o_asg rfl rfl ?_
    refine o_asg rfl rfl (OpsW_nil ?_)
    refine AW_ret ⟨_, rfl, ?_⟩
    exact ret_neg (by simp [packOk]; omega) rfl
  refine AW_skip ?_
  refine AW_seq (AW_reg [0] rfl ?_)
  refine o_asg rfl rfl (OpsW_nil ?_)
  refine AW_seq (AW_seq (AW_reg [0, 1, 2] rfl ?_))
  refine o_move rfl rfl ?_
  refine o_len rfl rfl uTexts rfl ?_
  refine o_move rfl rfl (OpsW_nil ?_)
  refine AW_block ?_
  refine AW_loopI (α := Nat × AV) (fun p => [(10, .texts l), (11, .int l.length), (12, .int p.1), (4, p.2)])
    (fun p h => Row h p.2 (bcells (packL (l.take p.1))) (packL (l.take p.1)).length 1 ∧ p.1 ≤ l.length ∧ ∀ t ∈ l.take p.1, t.length ≤ 300) (fun p => l.length - p.1)
    ⟨(0, .nil), ⟨Row.nil _ 1, Nat.zero_le _, by simp⟩, .same _, .same _, .same _, .same _, trivial⟩ ?_
  rintro ⟨i, v⟩ h n ⟨hrow, hil, h300⟩ hlt
  simp only at hrow hil h300
  refine AW_seq (AW_reg [0] rfl ?_)
  refine o_bin rfl rfl rfl rfl rfl (OpsW_nil ?_)
  refine AW_seq (AW_if rfl (fun hi => ?_) (fun hi => ?_))
  · have hi2 : i < l.length := by omega
    refine AW_skip ?_
    refine AW_seq (AW_block (AW_seq (AW_reg [0, 1, 2] rfl ?_)))
    refine o_ixl rfl rfl uTexts zStr rfl rfl rfl hi2 (map_ne hi2) ?_
    refine o_ld rfl rfl uStr rfl rfl (map_at hi2) ?_
    refine o_asg rfl rfl (OpsW_nil ?_)
    refine AW_seq (AW_seq (AW_reg [0, 1, 2] rfl ?_))
    refine o_move rfl rfl ?_
    refine o_lens rfl rfl uStr rfl ?_
    refine o_bin rfl rfl rfl rfl rfl (OpsW_nil ?_)
    refine AW_if rfl (fun hb => ?_) (fun hb => ?_)
    · refine AW_seq (AW_reg [0, 1] rfl ?_)
      refine o_asg rfl rfl ?_
      refine o_asg rfl rfl (OpsW_nil ?_)
      refine AW_ret ⟨_, rfl, ?_⟩
      have hno : ¬ packOk l = true := by
        simp only [packOk, Bool.and_eq_true, List.all_eq_true, decide_eq_true_eq, not_and]
        intro _ hall
        have := hall _ (List.getElem_mem hi2)
        rw [strB_size] at hb
        omega
      exact ret_neg hno rfl
    refine AW_skip ?_
    refine AW_reg [0, 1, 2, 3, 4, 5, 6, 7, 8, 9, 10, 11, 12] rfl ?_
    refine o_move rfl rfl ?_
    refine o_move rfl rfl ?_
    refine o_lens rfl rfl uStr rfl ?_
    refine o_shift rfl rfl rfl rfl (.inr rfl) (by decide) (c := ((l[i].length / 256 : Nat) : Int)) (shr_nat _ 8 (by decide)) ?_
    refine o_ci rfl rfl uInt uByte rfl (wrap8 _) ?_
    refine o_move rfl rfl ?_
    refine o_lens rfl rfl uStr rfl ?_
    refine o_ci rfl rfl uInt uByte rfl (wrap8 _) ?_
    refine o_bs (cs := bcells [UInt8.ofNat (l[i].length / 256), UInt8.ofNat l[i].length]) rfl rfl uBytes iByte rfl (by kernel_rfl) (by decide) (by decide) rfl rfl ?_
    have hb2 : l[i].length ≤ 300 := by
      have : ((strB l[i]).size : Int) = l[i].length := rfl
      omega
    have hpl := packL_len _ h300
    have hpl2 : (l.take i).length ≤ 40 := by rw [List.length_take]; omega
    have hsz : (strB l[i]).size = l[i].length := rfl
    intro v1 h1 n1 hr1 hn1 hk1
    obtain ⟨hq1, hs1⟩ := hrow.old hk1
    refine o_app rfl rfl uBytes uBytes iByte rfl hq1 hr1.cont hr1.1 hr1.nostr (by omega) (by omega) ?_
    intro v2 h2 n2 hr2 hn2 hk2
    refine o_move rfl rfl ?_
    refine o_apps rfl rfl uBytes uStr iByte rfl hr2 rfl (by omega) (by omega) ?_
    intro v3 h3 n3 hr3 hn3 hk3
    refine o_asg rfl rfl (OpsW_nil ?_)
    refine AW_reg [0, 1] rfl ?_
    refine o_add rfl rfl rfl rfl (c := ((i + 1 : Nat) : Int)) rfl (by omega) ?_
    refine o_move rfl rfl (OpsW_nil ?_)
    refine ⟨rfl, (i + 1, v3), ⟨?_, hi2, ?_⟩, ?_, .same _, .same _, .same _, .same _, trivial⟩
    · refine hr3.eqTo ?_ ?_
      · rw [packL_take hi2, strB_data]
        simp [bcells_append, packT]
        rfl
      · rw [packL_take hi2, strB_size]
        simp [packT]
        omega
    · intro t ht
      rw [take_snoc hi2] at ht
      rcases List.mem_append.1 ht with h1 | h1
      · exact h300 t h1
      · rw [List.mem_singleton.1 h1]; omega
    · show l.length - (i + 1) < l.length - i
      omega
  · refine AW_exit ?_
    refine AW_seq (AW_reg [0, 1, 2] rfl ?_)
    refine o_move rfl rfl ?_
    refine o_asg rfl rfl ?_
    refine o_asg rfl rfl (OpsW_nil ?_)
    refine AW_ret ⟨_, rfl, ?_⟩
    have hie : i = l.length := by omega
    subst hie
    rw [List.take_length] at hrow h300
    exact ret_pos (by simp [packOk]; exact ⟨by omega, h300⟩) ⟨v, rfl, hrow⟩
end Go.Proofs.Ytaojoppkkmpieaa.VM
