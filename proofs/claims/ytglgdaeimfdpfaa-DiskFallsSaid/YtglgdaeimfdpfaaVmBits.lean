/- Bits of whole numbers; rows that are given away; more steps. -/
import Derived.Test.YtglgdaeimfdpfaaVmDraw
import Derived.Laws.Bits64b
namespace Go.Proofs.Ytglgdaeimfdpfaa.VM
open Go Go.RowKit

theorem bits_or_i64 (a b : Nat) (ha : a < 9223372036854775808) (hb : b < 9223372036854775808) : Go.bits .or .i64 (a : Int) (b : Int) = ((a ||| b : Nat) : Int) := by
  have hor : a ||| b < 9223372036854775808 := Nat.or_lt_two_pow (n := 63) ha hb
  have h1 : (BitVec.ofInt 64 (a : Int)).toNat = a := by
    rw [BitVec.ofInt_natCast, BitVec.toNat_ofNat]; exact Nat.mod_eq_of_lt (by omega)
  have h2 : (BitVec.ofInt 64 (b : Int)).toNat = b := by
    rw [BitVec.ofInt_natCast, BitVec.toNat_ofNat]; exact Nat.mod_eq_of_lt (by omega)
  show IntKind.i64.wrap ((BitVec.ofInt 64 (a : Int) ||| BitVec.ofInt 64 (b : Int)).toNat : Int) = _
  rw [BitVec.toNat_or, h1, h2, wrap64 (by omega)]
theorem shl_nat (n : Nat) (k : Int) (hk : 0 ≤ k ∧ k ≤ 62) (hn : n * 2 ^ k.toNat < 9223372036854775808) : IntKind.i64.wrap ((n : Int) * 2 ^ min k.toNat IntKind.i64.bits) = ((n * 2 ^ k.toNat : Nat) : Int) := by
  rw [show min k.toNat IntKind.i64.bits = k.toNat by simp [IntKind.bits]; omega]
  have : ((n : Int) * 2 ^ k.toNat) = ((n * 2 ^ k.toNat : Nat) : Int) := by simp
  rw [this, wrap64 (by omega)]
theorem wrapi {n : Nat} (h : n < 9223372036854775808) : IntKind.i64.wrap (n : Int) = n := wrap64 (by omega)
/-- Two bytes as a number. -/
theorem or_bytes (a b : Nat) (hb : b < 256) : a * 256 ||| b = a * 256 + b := by
  have := Nat.shiftLeft_add_eq_or_of_lt (i := 8) (b := b) (by simpa using hb) a
  rw [Nat.shiftLeft_eq] at this
  exact this.symm

/-- A part, what holds behind it, and the rest. -/
theorem AW_seqM {P : Program} {x y : Code} {Q : Go.Exit → AS → Prop} {s : AS} (mid : AS → Prop) (h1 : AW P x (thenQ mid Q) s) (h2 : ∀ s', mid s' → AW P y Q s') : AW P (.seq x y) Q s := by
  refine AW_seq (h1.mono fun e s' q => ?_)
  cases e with
  | normal => exact h2 s' q
  | _ => exact q

/-- The state is known by a list. -/
def Is (N : Nat) (L : List (Nat × AV)) (s : AS) : Prop := s.sz = N ∧ Fits s L ∧ ∀ b o, s.h b = some o → b < s.n
theorem AW_is {P : Program} {c : Code} {Q : Go.Exit → AS → Prop} {s : AS} {N : Nat} {L : List (Nat × AV)} (h : Is N L s) (k : (∀ b o, s.h b = some o → b < s.n) → AW P c Q (St L s.h s.n N)) : AW P c Q s := by
  obtain ⟨rfl, hf, hlt⟩ := h
  exact AW_weak hf (k hlt)

/-! ### A row is given away -/
theorem AW_pubRow {P : Program} {c : Code} {Q : Go.Exit → AS → Prop} {s : AS} {d n z : Nat} {cs : List AV} {N : Nat} (L : List (Nat × AV)) (hN : s.sz = N) (hr : Row s.h (s.t d) cs n z) (hf : FitsEq s L) (hd0 : (L.all fun p => p.1 != d) = true)
    (h : ∀ h' n', (∀ b o, h' b = some o → b < n') → (∀ b, s.h b ≠ none → blk (s.t d) ≠ some b → h' b = s.h b) → AW P c Q (St ((d, .lst cs n) :: L) h' n' N)) : AW P c Q s := by
  subst hN
  have hd : ∀ p ∈ L, p.1 ≠ d := fun p hp => by simpa using List.all_eq_true.1 hd0 p hp
  have fit : ∀ (s' : AS) (l : List (Nat × AV)), (∀ p ∈ l, p.1 ≠ d) → (∀ u, u ≠ d → s'.t u = s.t u) → FitsEq s l → Fits s' l := by
    intro s' l
    induction l with
    | nil => exact fun _ _ _ => trivial
    | cons p l ih =>
      obtain ⟨k, v⟩ := p
      intro h1 h2 h3
      refine ⟨?_, ih (fun q hq => h1 q (List.mem_cons_of_mem _ hq)) h2 h3.2⟩
      rw [h2 k (h1 _ List.mem_cons_self), h3.1]
      exact .same _
  intro Z a w r
  obtain ⟨hl, ⟨hv, rfl⟩ | ⟨b, hv, hb⟩⟩ := hr
  · have hcs : cs = [] := List.eq_nil_of_length_eq_zero (by omega)
    subst hcs
    refine (AW_weak (l := (d, .lst [] 0) :: L) ⟨by rw [hv]; exact .nil, fit s L hd (fun _ _ => rfl) hf⟩ (h s.h s.n r.hl (fun b _ _ => rfl))) Z a w r
  · have hlt : b < s.n := r.hl b cs hb
    have key : AW P c Q (s.pub d b (.lst ((cs.drop 0).take (n * z)) n)) := by
      have he : (cs.drop 0).take (n * z) = cs := by rw [List.drop_zero, ← hl, List.take_length]
      rw [he]
      refine AW_weak (l := (d, .lst cs n) :: L) ⟨?_, fit _ L hd (fun u hu => by simp [AS.pub, hu]) hf⟩ ?_
      · have : (s.pub d b (.lst cs n)).t d = .lst cs n := by simp [AS.pub]
        rw [this]
        exact .same _
      · refine h _ _ (fun k o hk => ?_) (fun k hk1 hk2 => ?_)
        · have hk' : s.h.set b none k = some o := hk
          by_cases hkb : k = b
          · rw [hkb, Heap.set_eq] at hk'; cases hk'
          · rw [Heap.set_ne _ _ _ _ hkb] at hk'
            exact r.hl k o hk'
        · have hkb : k ≠ b := by
            rintro rfl
            exact hk2 (by rw [hv]; rfl)
          exact Heap.set_ne _ _ _ _ hkb
    exact AW_pub hv hb (by omega) key Z a w r

section o
variable {P : Program} {ops : Array Oper} {K : AS → Prop} {s : AS} {j : Nat} {l : List Nat} {dst : Option Tmp} {ty : TypeId} {pos : String} {after : Array Edge}
theorem o_bs0 {t e : TypeId} {z by' : Nat} {zv : Value} (ho : ops[j]? = some ⟨dst, .buildSlice t 0 #[], ty, pos, after, none⟩) (hd : dOk s dst = true) (hu : P.underlying t = some (.slice e)) (hI : Info P e z by' zv)
    (hk : ∀ v' h' n', Row h' v' [] 0 z → (∀ b o, h' b = some o → b < n') → (∀ b, s.h b ≠ none → h' b = s.h b ∧ blk v' ≠ some b) → OpsW P ops l K ((AS.mk s.t h' n' s.sz).put dst v')) : OpsW P ops (j :: l) K s := by
  obtain ⟨ie, hie, hsz, _, hz⟩ := hI.get
  refine OpsW_cons ho rfl (OpW_hl fun hl => OpW_buildSlice0 (z := z) hu hie hd (fun b hb => hk _ _ (b + 1) ⟨by simp, .inr ⟨b, rfl, Heap.set_eq _ _ _⟩⟩ (fun k o hk => ?_) (fun k hk1 => ?_)))
  · by_cases hkb : k = b
    · omega
    · rw [Heap.set_ne _ _ _ _ hkb] at hk
      have := hl k o hk
      omega
  · have hkb : k ≠ b := by
      rintro rfl
      rcases Option.eq_none_or_eq_some (s.h k) with e | ⟨o, e⟩
      · exact hk1 e
      · have := hl k o e
        omega
    refine ⟨Heap.set_ne _ _ _ _ hkb, ?_⟩
    simp only [blk, ne_eq, Option.some.injEq]
    exact fun e => hkb e.symm
end o
end Go.Proofs.Ytglgdaeimfdpfaa.VM
