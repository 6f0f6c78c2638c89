/- The abstract logic: texts and rows of bytes as lists. -/
import Derived.Laws.Strings
import Derived.Test.YtglgdaeimfdpfaaVmFacts
namespace Go.Proofs.Ytglgdaeimfdpfaa.VM
open Go Go.RowKit

/-- A text, by its bytes. -/
abbrev AV.txt (bs : List UInt8) : AV := .sc (.string (strB bs))
/-- A row of bytes, of texts, that is only read. -/
abbrev AV.bytes (bs : List UInt8) : AV := .lst (bcells bs) bs.length
abbrev AV.texts (l : List (List UInt8)) : AV := .lst (l.map .txt) l.length
abbrev AV.lists (l : List (List UInt8)) : AV := .lst (l.map .bytes) l.length

theorem strB_size (a : List UInt8) : (strB a).size = a.length := rfl
theorem strB_data (a : List UInt8) : (strB a).data.toList = a := rfl
theorem strB_toList (a : List UInt8) : (strB a).toList = a := by rw [ByteArray.toList_eq]; rfl
theorem strB_append (a b : List UInt8) : strB a ++ strB b = strB (a ++ b) := by
  apply ByteArray.ext
  simp [strB]
theorem strB_extract (a : List UInt8) (i j : Nat) : (strB a).extract i j = strB ((a.drop i).take (j - i)) := by
  apply ByteArray.ext
  simp [strB]
theorem strB_inj {a b : List UInt8} (h : strB a = strB b) : a = b := by
  have := congrArg (fun x => x.data.toList) h
  simpa [strB] using this

theorem map_ne {α : Type} {f : α → AV} {l : List α} {i : Nat} (h : i < l.length) : l.map f ≠ [] := by
  intro he
  rw [List.map_eq_nil_iff] at he
  rw [he] at h
  exact absurd h (Nat.not_lt_zero _)
theorem map_at {α : Type} {f : α → AV} {l : List α} {i : Nat} (h : i < l.length) : (l.map f)[i * 1]? = some (f l[i]) := by simp [h]
theorem bcells_ne {l : List UInt8} {i : Nat} (h : i < l.length) : bcells l ≠ [] := map_ne h
theorem bcells_at {l : List UInt8} {i : Nat} (h : i < l.length) : (bcells l)[i * 1]? = some (.sc (.int .u8 l[i].toNat)) := by simp [bcells, h]

/-- The low eight bits of a number. -/
theorem wrap8 (n : Nat) : IntKind.u8.wrap n = (UInt8.ofNat n).toNat := by
  unfold IntKind.wrap
  simp [IntKind.bits, IntKind.signed]
theorem shr_nat (n : Nat) (k : Int) (hk : 0 ≤ k ∧ k ≤ 64) : (n : Int).fdiv (2 ^ min k.toNat IntKind.i64.bits) = ((n / 2 ^ k.toNat : Nat) : Int) := by
  rw [show min k.toNat IntKind.i64.bits = k.toNat by simp [IntKind.bits]; omega, Int.fdiv_eq_ediv_of_nonneg _ (by exact_mod_cast Nat.zero_le _)]
  simp

theorem shr_natu (n : Nat) (k : Int) (hk : 0 ≤ k ∧ k ≤ 64) : (n : Int).fdiv (2 ^ min k.toNat IntKind.u64.bits) = ((n / 2 ^ k.toNat : Nat) : Int) := by
  rw [show min k.toNat IntKind.u64.bits = k.toNat by simp [IntKind.bits]; omega, Int.fdiv_eq_ediv_of_nonneg _ (by exact_mod_cast Nat.zero_le _)]
  simp
theorem wrapu {n : Nat} (h : n < 18446744073709551616) : IntKind.u64.wrap n = n := by
  unfold IntKind.wrap
  simp [IntKind.bits, IntKind.signed]
  omega

section steps
variable {P : Program} {ops : Array Oper} {K : AS → Prop} {s : AS} {j : Nat} {l : List Nat} {dst : Option Tmp} {ty : TypeId} {pos : String} {after : Array Edge}
theorem o_lent {x : Operand} {t : TypeId} {b : List UInt8} (ho : ops[j]? = some ⟨dst, .call { callee := .builtin .len, args := #[x], argTypes := #[t] }, ty, pos, after, none⟩) (hd : dOk s dst = true) (ht : P.underlying t = some .string) (hx : aev s x = .txt b) (hk : OpsW P ops l K (s.put dst (.int b.length))) : OpsW P ops (j :: l) K s := o_lens ho hd ht hx hk
/-- Texts are put together. -/
theorem o_cat {t yt : TypeId} {x y : Operand} {a b : List UInt8} (ho : ops[j]? = some ⟨dst, .binOp .add t x y yt, ty, pos, after, none⟩) (hd : dOk s dst = true) (hx : aev s x = .txt a) (hy : aev s y = .txt b) (hl : a.length + b.length ≤ 9223372036854775807)
    (hk : OpsW P ops l K (s.put dst (.txt (a ++ b)))) : OpsW P ops (j :: l) K s := by
  refine o_sbin ho hd hx hy (v := .string (strB a ++ strB b)) ?_ (by rw [strB_append]; exact hk)
  simp only [sbin]
  exact if_pos hl
theorem o_seq {t yt : TypeId} {x y : Operand} {a b : List UInt8} (ho : ops[j]? = some ⟨dst, .binOp .eql t x y yt, ty, pos, after, none⟩) (hd : dOk s dst = true) (hx : aev s x = .txt a) (hy : aev s y = .txt b)
    (hk : OpsW P ops l K (s.put dst (.bool (a == b)))) : OpsW P ops (j :: l) K s :=
  o_sbin ho hd hx hy (v := .bool (a == b)) (by simp only [sbin, strB_toList]) hk
theorem o_sne {t yt : TypeId} {x y : Operand} {a b : List UInt8} (ho : ops[j]? = some ⟨dst, .binOp .neq t x y yt, ty, pos, after, none⟩) (hd : dOk s dst = true) (hx : aev s x = .txt a) (hy : aev s y = .txt b)
    (hk : OpsW P ops l K (s.put dst (.bool (!(a == b))))) : OpsW P ops (j :: l) K s :=
  o_sbin ho hd hx hy (v := .bool (!(a == b))) (by simp only [sbin, strB_toList]) hk
/-- A text as bytes: a new row. -/
theorem o_sb {src dt e : TypeId} {u : TypeDesc} {x : Operand} {b : List UInt8} (ho : ops[j]? = some ⟨dst, .convert src dt x, ty, pos, after, none⟩) (hd : dOk s dst = true) (hs : P.underlying src = some u) (ht : P.underlying dt = some (.slice e)) (he : P.underlying e = some (.int .u8)) (hx : aev s x = .txt b)
    (hk : ∀ v' h' n', Row h' v' (bcells b) b.length 1 → (∀ b o, h' b = some o → b < n') → (∀ b, s.h b ≠ none → h' b = s.h b ∧ blk v' ≠ some b) → OpsW P ops l K ((AS.mk s.t h' n' s.sz).put dst v')) : OpsW P ops (j :: l) K s := by
  refine OpsW_cons ho rfl (OpW_hl fun hl => OpW_conv_str_bytes hs ht he hx hd (fun k hk0 => hk _ _ (k + 1) ⟨by simp [bcells_length], .inr ⟨k, rfl, Heap.set_eq _ _ _⟩⟩ (fun q o hq => ?_) (fun q hq => ?_)))
  · by_cases hkb : q = k
    · omega
    · rw [Heap.set_ne _ _ _ _ hkb] at hq
      have := hl q o hq
      omega
  · have hkb : q ≠ k := by
      rintro rfl
      rcases Option.eq_none_or_eq_some (s.h q) with e | ⟨o, e⟩
      · exact hq e
      · have := hl q o e
        omega
    refine ⟨Heap.set_ne _ _ _ _ hkb, ?_⟩
    simp only [blk, ne_eq, Option.some.injEq]
    exact fun e => hkb e.symm
/-- A byte of a text. -/
theorem o_ixt {t : TypeId} {x y : Operand} {b : List UInt8} {k : IntKind} {i : Int} {n : Nat} {c : UInt8} (ho : ops[j]? = some ⟨dst, .index t x y, ty, pos, after, none⟩) (hd : dOk s dst = true) (ht : P.underlying t = some .string) (hx : aev s x = .txt b) (hy : aev s y = .sc (.int k i)) (hi : i = (n : Int)) (hc : b[n]? = some c)
    (hk : OpsW P ops l K (s.put dst (.sc (.int .u8 c.toNat)))) : OpsW P ops (j :: l) K s :=
  OpsW_cons ho rfl (OpW_index_str ht hx hy hi (by simpa [strB] using hc) hd hk)
end steps

theorem take_snoc {α : Type} {l : List α} {i : Nat} (h : i < l.length) : l.take (i + 1) = l.take i ++ [l[i]] := by simp
theorem Row.eqTo {h : Heap} {v : AV} {cs cs' : List AV} {n n' z : Nat} (r : Row h v cs n z) (hc : cs = cs') (hn : n = n') : Row h v cs' n' z := by
  subst hc
  subst hn
  exact r

theorem ret_neg {c A B : Prop} [Decidable c] (hc : ¬c) (h : B) : if c then A else B := by rw [if_neg hc]; exact h
theorem ret_pos {c A B : Prop} [Decidable c] (hc : c) (h : A) : if c then A else B := by rw [if_pos hc]; exact h

section ops
variable {h h' : Heap}
theorem Row.new {b : Nat} {cs : List AV} {n z : Nat} (hl : cs.length = n * z) : Row (h.set b (some cs)) (.sl b 0 n z) cs n z := ⟨hl, .inr ⟨b, rfl, Heap.set_eq _ _ _⟩⟩
theorem Row.set_new {v : AV} {cs cs' : List AV} {n z b : Nat} (r : Row h v cs n z) (hb : h b = none) : Row (h.set b (some cs')) v cs n z :=
  r.keep fun k _ hk2 => Heap.set_ne _ _ _ _ (by rintro rfl; exact hk2 hb)
theorem Row.sep_new {v : AV} {cs : List AV} {n z b n' z' off : Nat} (r : Row h v cs n z) (hb : h b = none) : sep v (.sl b off n' z') := by
  obtain ⟨hl, ⟨rfl, rfl⟩ | ⟨b', rfl, hb'⟩⟩ := r
  · intro k hk; cases hk
  · intro k hk
    simp only [blk, Option.some.injEq] at hk ⊢
    subst hk
    rintro he
    cases he
    rw [hb] at hb'; cases hb'
theorem sep.symm {v v' : AV} (h : sep v v') : sep v' v := fun b hb hb' => h b hb' hb
theorem Row.other {v v1 v' : AV} {cs : List AV} {n z : Nat} (r : Row h v cs n z) (hs : sep v v1) (hk : ∀ b, h b ≠ none → blk v1 ≠ some b → h' b = h b ∧ blk v' ≠ some b) : Row h' v cs n z ∧ sep v v' := by
  refine ⟨r.keep fun b hb hb2 => (hk b hb2 (hs b hb)).1, fun b hb => ?_⟩
  obtain ⟨hl, ⟨rfl, rfl⟩ | ⟨b', rfl, hb'⟩⟩ := r
  · cases hb
  · simp only [blk, Option.some.injEq] at hb
    subst hb
    exact (hk b' (by rw [hb']; simp) (hs b' rfl)).2
theorem Row.old {v v' : AV} {cs : List AV} {n z : Nat} (r : Row h v cs n z) (hk : ∀ b, h b ≠ none → h' b = h b ∧ blk v' ≠ some b) : Row h' v cs n z ∧ sep v v' :=
  r.other (v1 := .nil) (fun _ _ h => by cases h) fun b hb _ => hk b hb
end ops
end Go.Proofs.Ytglgdaeimfdpfaa.VM
