/- Words and rules that the proof uses. -/
import Derived.Test.YtfekkhinjdmcbaaDoorVmMake
namespace Go.Proofs.YtfekkhinjdmcbaaDoor.VM
open Go Go.RowKit
def bcells (bs : List UInt8) : List AV := bs.map fun b => .sc (.int .u8 b.toNat)
def strB (bs : List UInt8) : ByteArray := ⟨bs.toArray⟩
theorem bcells_length (bs : List UInt8) : (bcells bs).length = bs.length := by simp [bcells]
theorem bcells_append (a b : List UInt8) : bcells (a ++ b) = bcells a ++ bcells b := by simp [bcells]
theorem bcells_get (bs : List UInt8) (i : Nat) : (bcells bs)[i]? = (bs[i]?).map fun b => .sc (.int .u8 b.toNat) := by simp [bcells]
def bnd (s : AS) (o : Option Operand) (d v : Nat) : Prop := match o with
 | none => v = d
 | some x => ∃ k, aev s x = .sc (.int k v)
theorem run_bounds {P : Program} {Z : Nat → Prop} {s : AS} {a : Act} {w : World} (r : SR Z s a w) {lo hi mx : Option Operand} {l h n c m : Nat} (isS : Bool) (hl : bnd s lo 0 l) (hh : bnd s hi n h) (hm : bnd s mx c m) (hmh : mx.isSome = true → hi.isSome = true) (h1 : l ≤ h) (h2 : h ≤ m) (h3 : m ≤ c) :
  (Instr.sliceBounds isS n c (lo.map a.eval) (hi.map a.eval) (mx.map a.eval)).run P w = .ok (l, h, m) w := by
 have ev : ∀ (x : Operand) (k : IntKind) (v : Nat), aev s x = .sc (.int k v) → a.eval x = .int k v := by
  intro x k v hx
  have := aev_rel r x
  rw [hx] at this
  exact this.sc_inv
 have sb : ∀ (k : IntKind) (v y : Nat) (code : BoundsCode), v ≤ y → (Instr.sliceBound (.int k v) y code).run P w = .ok v w := by
  intro k v y code hv
  have := run_sliceBound (P := P) w k (v : Int) y code (by omega) (by omega)
  simpa using this
 cases lo <;> cases hi <;> cases mx <;> simp only [bnd] at hl hh hm <;> (try (simp at hmh; done))
 case none.none.none => subst hl; subst hh; subst hm; simp [Instr.sliceBounds]
 case none.some.none y =>
  obtain ⟨k, hy⟩ := hh
  subst hl; subst hm
  simp [Instr.sliceBounds, ev _ _ _ hy, sb k h _ _ h2]
 case none.some.some y z =>
  obtain ⟨k, hy⟩ := hh
  obtain ⟨k', hz⟩ := hm
  subst hl
  simp [Instr.sliceBounds, ev _ _ _ hy, ev _ _ _ hz, sb k h _ _ h2, sb k' m _ _ h3]
 case some.none.none x =>
  obtain ⟨k, hx⟩ := hl
  subst hh; subst hm
  simp [Instr.sliceBounds, ev _ _ _ hx, sb k l _ _ h1]
 case some.some.none x y =>
  obtain ⟨k, hx⟩ := hl
  obtain ⟨k', hy⟩ := hh
  subst hm
  simp [Instr.sliceBounds, ev _ _ _ hx, ev _ _ _ hy, sb k l _ _ h1, sb k' h _ _ h2]
 case some.some.some x y z =>
  obtain ⟨k, hx⟩ := hl
  obtain ⟨k', hy⟩ := hh
  obtain ⟨k'', hz⟩ := hm
  simp [Instr.sliceBounds, ev _ _ _ hx, ev _ _ _ hy, ev _ _ _ hz, sb k l _ _ h1, sb k' h _ _ h2, sb k'' m _ _ h3]
theorem cut_lst {Z : Nat → Prop} {w : World} {cs : List AV} {A : Option Addr} {n c l h m z : Nat} (r : Rel Z w (.lst cs n) (.slice A n c)) (h1 : l ≤ h) (h2 : h ≤ m) (hn : h ≤ n) :
  Rel Z w (.lst ((cs.drop (l * z)).take ((h - l) * z)) (h - l)) (.slice (if m = l then A else A.map (·.add (l * z))) (h - l) (m - l)) := by
 by_cases he : ((cs.drop (l * z)).take ((h - l) * z)) = []
 ·rw [he]
  refine .lnil _ _ _ (by omega) (fun hA => ?_)
  cases r with
  | lnil _ _ _ hc hA' =>
   have hnone : A = none := by
    split at hA
    ·exact hA
    ·simpa using hA
   have := hA' hnone
   omega
  | lst _ _ _ b off f hc hz hs hr =>
   split at hA <;> simp at hA
 ·cases r with
  | lnil => simp at he
  | lst _ _ _ b off f hc hz hs hr =>
   have hlh : l < h := by
    rcases Nat.lt_or_ge l h with hx | hx
    ·exact hx
    ·exact absurd (by rw [show h - l = 0 by omega, Nat.zero_mul, List.take_zero]) he
   rw [if_neg (by omega)]
   simp only [Option.map_some, add_none]
   have hget : ∀ (i : Nat) (a : AV), ((cs.drop (l * z)).take ((h - l) * z))[i]? = some a → cs[l * z + i]? = some a := by
    intro i a ha
    rw [List.getElem?_take] at ha
    split at ha
    ·rwa [List.getElem?_drop] at ha
    ·cases ha
   exact .lst _ _ _ b (off + l * z) (fun i => f (l * z + i)) (by omega) hz (fun i a ha => by rw [Nat.add_assoc]; exact hs _ a (hget i a ha)) (fun i a ha => hr _ a (hget i a ha))
section ops
variable {P : Program} {K : AS → Prop} {s : AS} {dst : Option Tmp} {ty : TypeId} {pos : String} {after : Array Edge} {t e : TypeId} {x : Operand} {lo hi mx : Option Operand} {l h n m z : Nat}
theorem OpW_cut_l {cs : List AV} (hx : aev s x = .lst cs n) (ht : P.underlying t = some (.slice e)) (hz : (P.info? e).map (·.size) = some z) (hl : bnd s lo 0 l) (hh : bnd s hi n h) (hm : mx = none ∨ (bnd s mx n m ∧ h ≤ m ∧ m ≤ n ∧ hi.isSome = true)) (h1 : l ≤ h) (h2 : h ≤ n) (hd : dOk s dst = true)
  (hk : K (s.put dst (.lst ((cs.drop (l * z)).take ((h - l) * z)) (h - l)))) : OpW P ⟨dst, .slice t x lo hi mx, ty, pos, after, none⟩ K s := by
 refine OpW_same hd (fun Z a w r => ?_) hk
 have hv := aev_rel r x
 rw [hx] at hv
 obtain ⟨A, c, hxe, hnc⟩ := hv.lst_inv
 rw [hxe] at hv
 obtain ⟨m', hmb, hhm, hmc, hmh⟩ : ∃ m', bnd s mx c m' ∧ h ≤ m' ∧ m' ≤ c ∧ (mx.isSome = true → hi.isSome = true) := by
  rcases hm with rfl | ⟨hm1, hm2, hm3, hm4⟩
  ·exact ⟨c, rfl, by omega, Nat.le_refl _, fun hc => by simp at hc⟩
  ·cases mx with
   | none => exact ⟨c, rfl, by omega, Nat.le_refl _, fun hc => by simp at hc⟩
   | some y => exact ⟨m, hm1, hm2, by omega, fun _ => hm4⟩
 have hb := run_bounds (P := P) r true hl hh hmb hmh h1 hhm hmc
 refine ⟨_, ?_, cut_lst (m := m') (z := z) hv h1 hhm h2⟩
 simp only [execOp, Instr.sliceAt, hxe]
 simp [run_underlying ht, Instr.slice, hb, info_run hz]
theorem OpW_cut_str {b : ByteArray} (hx : aev s x = .sc (.string b)) (ht : P.underlying t = some .string) (hl : bnd s lo 0 l) (hh : bnd s hi b.size h) (hm : mx = none) (h1 : l ≤ h) (h2 : h ≤ b.size) (hd : dOk s dst = true)
  (hk : K (s.put dst (.sc (.string (b.extract l h))))) : OpW P ⟨dst, .slice t x lo hi mx, ty, pos, after, none⟩ K s := by
 refine OpW_same hd (fun Z a w r => ⟨_, ?_, .sc _ rfl⟩) hk
 subst hm
 have hv := aev_rel r x
 rw [hx] at hv
 have hb := run_bounds (P := P) (c := b.size) (mx := none) r false hl hh rfl (fun hc => by simp at hc) h1 h2 (Nat.le_refl _)
 simp only [Option.map_none] at hb
 simp only [execOp, Instr.sliceAt, hv.sc_inv]
 simp [run_underlying ht, Instr.slice, hb]
theorem strFold (bs : List UInt8) : ∀ (acc : ByteArray), ((bs.map fun b => (b.toNat : Int)).foldl (fun r n => r.push (UInt8.ofNat n.toNat)) acc) = ⟨acc.data ++ bs.toArray⟩ := by
 induction bs with
 | nil => intro acc; simp
 | cons c bs ih =>
  intro acc
  simp only [List.map_cons, List.foldl_cons, Int.toNat_natCast]
  rw [ih]
  have : UInt8.ofNat c.toNat = c := by simp
  rw [this]
  congr 1
  apply Array.ext'
  simp [ByteArray.push]
theorem OpW_conv_bytes {src dt : TypeId} {bs : List UInt8} (hs : P.underlying src = some (.slice e)) (he : P.underlying e = some (.int .u8)) (ht : P.underlying dt = some .string) (hx : acont s (aev s x) = some (bcells bs, bs.length)) (hd : dOk s dst = true)
  (hk : K (s.put dst (.sc (.string (strB bs))))) : OpW P ⟨dst, .convert src dt x, ty, pos, after, none⟩ K s := by
 refine OpW_same hd (fun Z a w r => ⟨_, ?_, .sc _ rfl⟩) hk
 obtain ⟨A, c, hxe, hnc, hcase⟩ := acont_rel r.gd hx (aev_rel r x)
 have hconv := run_convert_bytes_string (P := P) w src dt e A bs.length c hs he ht
 simp only [execOp, hxe]
 rw [Sem.run_bind, hconv]
 rcases hcase with ⟨hnil, hA⟩ | ⟨b, base, rfl, hcs⟩
 ·have hb : bs = [] := by
   have := congrArg List.length hnil
   rw [bcells_length] at this
   exact List.length_eq_zero_iff.1 this
  subst hb
  cases A with
  | none => rfl
  | some A => rfl
 ·have hload : (loadCells ⟨b, base, none⟩ bs.length).run P w = .ok ((bs.map fun b => (b.toNat : Int)).map (Value.int .u8)).toArray w := by
   have := run_loadCells_list (P := P) w ⟨b, base, none⟩ ((bs.map fun b => (b.toNat : Int)).map (Value.int .u8)) (fun j v hj => by
    rw [add_none]
    rw [List.getElem?_map, List.getElem?_map] at hj
    cases hbj : bs[j]? with
    | none => simp [hbj] at hj
    | some u =>
     simp only [hbj, Option.map_some, Option.some.injEq] at hj
     subst hj
     obtain ⟨v, hv1, hv2, _⟩ := hcs j (.sc (.int .u8 u.toNat)) (by rw [bcells_get, hbj]; rfl)
     rw [hv1, hv2.sc_inv])
   simpa using this
  have hrun := run_bytesToString (P := P) w ⟨b, base, none⟩ bs.length c _ hload
  rw [hrun, strFold]
  have he0 : (⟨ByteArray.empty.data ++ bs.toArray⟩ : ByteArray) = strB bs := by
   unfold strB
   congr 1
   apply Array.ext'
   simp
  rw [he0]
  rfl
theorem bytesWorld_push (w : World) (e : TypeId) (b : ByteArray) : (Lib.bytesWorld w e b).heap = w.heap.push (.cells (Lib.bytesCells w e b) e ((Lib.bytesCells w e b).size, (Lib.bytesCells w e b).size + 1)) := by
 apply Array.ext_getElem?
 intro i
 by_cases hi : i < w.heap.size
 ·rw [Lib.bytesWorld_at_old w e b i hi, Array.getElem?_push, if_neg (by omega)]
 ·by_cases hi2 : i = w.heap.size
  ·subst hi2
   rw [Lib.bytesWorld_at_new]
   simp
  ·rw [Array.getElem?_eq_none (by rw [Lib.bytesWorld_size]; omega), Array.getElem?_eq_none (by simp; omega)]
theorem OpW_conv_str_bytes {src dt : TypeId} {u : TypeDesc} {b : ByteArray} (hs : P.underlying src = some u) (ht : P.underlying dt = some (.slice e)) (he : P.underlying e = some (.int .u8)) (hx : aev s x = .sc (.string b)) (hd : dOk s dst = true)
  (hk : ∀ k, s.n ≤ k → K ((s.new k (bcells b.data.toList)).put dst (.sl k 0 b.size 1))) : OpW P ⟨dst, .convert src dt x, ty, pos, after, none⟩ K s := by
 refine OpW_new hd (fun Z a w r => ?_) hk
 have hv := aev_rel r x
 rw [hx] at hv
 have hrun := Lib.run_convert_string_bytes (P := P) w src dt e b hs ht he
 have hgc : b.size ≤ grownCap w b.size 0 e := by unfold grownCap Question.cut; exact Nat.le_add_right _ _
 have hbs : b.data.size = b.size := rfl
 have hsz : (Lib.bytesCells w e b).size = grownCap w b.size 0 e := by
  unfold Lib.bytesCells
  simp [hbs]
  omega
 refine ⟨.slice (some ⟨w.heap.size, 0, none⟩) b.size (grownCap w b.size 0 e), Lib.bytesWorld w e b, Lib.bytesCells w e b, e, (Lib.bytesCells w e b).size, (Lib.bytesCells w e b).size + 1, ?_, ?_, fun j c v hc hv2 => ?_, .inr (Nat.le_refl _), bytesWorld_push w e b, ?_, ?_, ?_, ?_⟩
 ·simp only [execOp, hv.sc_inv]
  rw [Sem.run_bind, hrun]
  rfl
 ·rw [hsz, bcells_length]
  simp [hbs]
  omega
 ·rw [bcells_get] at hc
  cases hbj : b.data.toList[j]? with
  | none => simp [hbj] at hc
  | some q =>
   simp only [hbj, Option.map_some, Option.some.injEq] at hc
   subst hc
   have hj : j < b.data.size := by
    have := (List.getElem?_eq_some_iff.1 hbj).1
    simpa using this
   unfold Lib.bytesCells at hv2
   rw [Array.getElem?_append_left (by simpa using hj), Array.getElem?_map] at hv2
   have hq : b.data[j]? = some q := by simpa using hbj
   rw [hq] at hv2
   simp only [Option.map_some, Option.some.injEq] at hv2
   subst hv2
   exact ⟨.sc _ rfl, rfl⟩
 ·rfl
 ·rfl
 ·rfl
 ·exact .sl _ 0 b.size 1 (grownCap w b.size 0 e) e (Lib.bytesCells w e b).size hgc (shape_push (w := w) (bytesWorld_push w e b)) (by rw [hsz]; omega)
end ops
end Go.Proofs.YtfekkhinjdmcbaaDoor.VM
