/- Words and rules that the proof uses. -/
import Derived.Test.YthnkbagmaljjjaaDoorVmRead
import Derived.Carry
import Derived.Below
import Derived.ChangeOld
import Derived.SizedLaws
namespace Go.Proofs.YthnkbagmaljjjaaDoor.VM
open Go Go.RowKit Go.ChangeShapes Go.WideShapes
def ArgTyped (P : Program) (d : Nat) (t : TypeId) (a : AV) : Prop := match P.underlying t with
 | some (.struct _) => ∃ cs, a = .agg cs ∧ Typed P d t cs
 | some (.array _ _) => ∃ cs, a = .agg cs ∧ Typed P d t cs
 | _ => Typed P d t [a]
theorem ArgTyped.one {P : Program} {d : Nat} {t : TypeId} {a : AV} {u : TypeDesc} (h : ArgTyped P d t a) (hu : P.underlying t = some u) (hs : isAggD u = false) : Typed P d t [a] := by
 unfold ArgTyped at h
 rw [hu] at h
 cases u <;> first | exact h | cases hs
theorem ArgTyped.struct {P : Program} {d : Nat} {t : TypeId} {a : AV} {fs : Array Field} (h : ArgTyped P d t a) (hu : P.underlying t = some (.struct fs)) : ∃ cs, a = .agg cs ∧ Typed P d t cs := by
 unfold ArgTyped at h
 rw [hu] at h
 exact h
theorem ArgTyped.array {P : Program} {d : Nat} {t : TypeId} {a : AV} {n : Nat} {e : TypeId} (h : ArgTyped P d t a) (hu : P.underlying t = some (.array n e)) : ∃ cs, a = .agg cs ∧ Typed P d t cs := by
 unfold ArgTyped at h
 rw [hu] at h
 exact h
theorem okWide_array {P : Program} {W : World} {base : Nat} {t : TypeId} {v : Value} {n : Nat} {e : TypeId} (ht : P.underlying t = some (.array n e)) (h : Value.okWide P W .any base t v) : ∃ cs, v = .agg cs ∧ cs.size = P.cellsOf t := by
 simp only [Value.okWide, ht] at h
 obtain ⟨cs, h1, h2, _⟩ := h
 exact ⟨cs, h1, h2⟩
theorem argsBack {H : Type} {enc : TypeId × Value → H} {P : Program} {W W' : World} (hl : laidOutB P = true) (hb : Below W.heap.size W W') : ∀ (ts : List TypeId) (vs : List Value) (ds : List (DataW H)) (p : List MemPlace),
  ts.all (fun t => P.readableRec t && decide (t < P.types.size)) = true → DataW.TrodAll enc P W 0 (fun _ => true) true ts vs ds p → DataW.TrodAll enc P W' 0 (fun b => decide (b < W.heap.size)) true ts vs ds p
 | [], vs, ds, p, _, h => by
  obtain ⟨rfl, rfl, rfl⟩ := trodAll_nil h
  rfl
 | t :: ts, vs, ds, p, hr, h => by
  obtain ⟨v, vs, y, ds, p0, q0, rfl, rfl, rfl, h0, hr0⟩ := trodAll_cons h
  simp only [List.all_cons, Bool.and_eq_true, decide_eq_true_eq] at hr
  refine ⟨p0, q0, Below.trod hl hr.1.1 hr.1.2 h0 hb ?_, argsBack hl hb ts vs ds q0 hr.2 hr0, rfl⟩
  obtain ⟨m, hm⟩ := h0
  exact DataW.trod_lt m _ _ _ hm
theorem trodAll_len {H : Type} {enc : TypeId × Value → H} {P : Program} {W : World} {sp : Nat → Bool} {base : Nat} {held : Bool} : ∀ (ts : List TypeId) (vs : List Value) (ds : List (DataW H)) (p : List MemPlace), DataW.TrodAll enc P W base sp held ts vs ds p → ds.length = ts.length
 | [], vs, ds, p, h => by
  obtain ⟨rfl, rfl, rfl⟩ := trodAll_nil h
  rfl
 | t :: ts, vs, ds, p, h => by
  obtain ⟨v, vs, y, ds, p0, q0, rfl, rfl, rfl, h0, hr0⟩ := trodAll_cons h
  rw [List.length_cons, List.length_cons, trodAll_len ts vs ds q0 hr0]
theorem Typed.int {P : Program} {d : Nat} {t : TypeId} {a : AV} (h : Typed P (d + 1) t [a]) (hu : P.underlying t = some (.int .i64)) : ∃ n : Int, a = .int n ∧ -9223372036854775808 ≤ n ∧ n ≤ 9223372036854775807 := by
 simp only [Typed, hu] at h
 obtain ⟨n, h1, h2⟩ := h
 cases h1
 refine ⟨n, rfl, ?_⟩
 simp only [Lit.wf, Bool.and_eq_true, decide_eq_true_eq] at h2
 exact h2
theorem Typed.text {P : Program} {d : Nat} {t : TypeId} {a : AV} (h : Typed P (d + 1) t [a]) (hu : P.underlying t = some .string) : ∃ bs : List UInt8, a = .txt bs ∧ bs.length ≤ reachBytes := by
 simp only [Typed, hu] at h
 obtain ⟨n, h1, h2⟩ := h
 cases h1
 exact ⟨n, rfl, h2⟩
theorem map_list {α β : Type} {f : β → α} {q : β → Prop} : ∀ (l : List (List α)), (∀ x ∈ l, ∃ b, x = [f b] ∧ q b) → ∃ bs : List β, l.flatten = bs.map f ∧ l.length = bs.length ∧ ∀ b ∈ bs, q b
 | [], _ => ⟨[], rfl, rfl, by simp⟩
 | x :: l, h => by
  obtain ⟨bs, h1, h2, h3⟩ := map_list l (fun y hy => h y (List.mem_cons_of_mem _ hy))
  obtain ⟨b, rfl, hb⟩ := h x List.mem_cons_self
  refine ⟨b :: bs, by simp [h1], by simp [h2], fun c hc => ?_⟩
  rcases List.mem_cons.1 hc with rfl | hc
  ·exact hb
  ·exact h3 c hc
theorem Typed.row {P : Program} {d : Nat} {t e : TypeId} {a : AV} {β : Type} {q : β → Prop} (f : β → AV) {B : Nat} (h : Typed P (d + 1) t [a]) (hu : P.underlying t = some (.slice e)) (hB : P.bytesOf e = B) (hf : ∀ x, x.length = P.cellsOf e → Typed P d e x → ∃ b, x = [f b] ∧ q b) :
  ∃ bs : List β, a = .lst (bs.map f) bs.length ∧ bs.length * B ≤ reachBytes ∧ bs.length ≤ maxLen ∧ ∀ b ∈ bs, q b := by
 simp only [Typed, hu] at h
 obtain ⟨es, h1, h2, h3, h4⟩ := h
 cases h1
 obtain ⟨bs, e1, e2, e3⟩ := map_list (f := f) es (fun x hx => hf x (h4 x hx).1 (h4 x hx).2)
 exact ⟨bs, by rw [e1, e2], by rw [← e2, ← hB]; exact h2, by rw [← e2]; exact h3, e3⟩
theorem Typed.byte {P : Program} {d : Nat} {t : TypeId} {x : List AV} (h : Typed P (d + 1) t x) (hu : P.underlying t = some (.int .u8)) : ∃ b : UInt8, x = [.sc (.int .u8 b.toNat)] ∧ True := by
 simp only [Typed, hu] at h
 obtain ⟨n, h1, h2⟩ := h
 refine ⟨UInt8.ofNat n.toNat, ?_, trivial⟩
 simp only [Lit.wf, Bool.and_eq_true, decide_eq_true_eq] at h2
 have h3 : 0 ≤ n ∧ n ≤ 255 := h2
 rw [h1]
 congr 3
 simp
 omega
theorem Typed.bytes {P : Program} {d : Nat} {t e : TypeId} {a : AV} (h : Typed P (d + 2) t [a]) (hu : P.underlying t = some (.slice e)) (he : P.underlying e = some (.int .u8)) (hB : P.bytesOf e = 1) : ∃ bs : List UInt8, a = .bytes bs ∧ bs.length ≤ reachBytes := by
 obtain ⟨bs, h1, h2, _, _⟩ := h.row (q := fun _ => True) (fun b : UInt8 => .sc (.int .u8 b.toNat)) hu hB (fun x _ hx => hx.byte he)
 exact ⟨bs, h1, by simpa using h2⟩
theorem Typed.lists {P : Program} {d : Nat} {t e u : TypeId} {a : AV} (h : Typed P (d + 3) t [a]) (hu : P.underlying t = some (.slice e)) (he : P.underlying e = some (.slice u)) (hb : P.underlying u = some (.int .u8)) (hB : P.bytesOf e = 24) (hB1 : P.bytesOf u = 1) :
  ∃ l : List (List UInt8), a = .lists l ∧ l.length * 24 ≤ reachBytes ∧ ∀ t ∈ l, t.length ≤ reachBytes := by
 obtain ⟨bs, h1, h2, _, h4⟩ := h.row (q := fun b => b.length ≤ reachBytes) AV.bytes hu hB (fun x _ hx => by
  have hx2 := hx
  simp only [Typed, he] at hx2
  obtain ⟨es, h1, _⟩ := hx2
  subst h1
  obtain ⟨bs, h2, h3⟩ := hx.bytes he hb hB1
  exact ⟨bs, by rw [h2], h3⟩)
 exact ⟨bs, h1, h2, h4⟩
theorem ArgTyped.int {P : Program} {d : Nat} {t : TypeId} {a : AV} (h : ArgTyped P (d + 1) t a) (hu : P.underlying t = some (.int .i64)) : ∃ n : Int, a = .int n ∧ -9223372036854775808 ≤ n ∧ n ≤ 9223372036854775807 := (h.one hu rfl).int hu
theorem ArgTyped.text {P : Program} {d : Nat} {t : TypeId} {a : AV} (h : ArgTyped P (d + 1) t a) (hu : P.underlying t = some .string) : ∃ bs : List UInt8, a = .txt bs ∧ bs.length ≤ reachBytes := (h.one hu rfl).text hu
theorem ArgTyped.bytes {P : Program} {d : Nat} {t e : TypeId} {a : AV} (h : ArgTyped P (d + 2) t a) (hu : P.underlying t = some (.slice e)) (he : P.underlying e = some (.int .u8)) (hB : P.bytesOf e = 1) : ∃ bs : List UInt8, a = .bytes bs ∧ bs.length ≤ reachBytes := (h.one hu rfl).bytes hu he hB
theorem ArgTyped.lists {P : Program} {d : Nat} {t e u : TypeId} {a : AV} (h : ArgTyped P (d + 3) t a) (hu : P.underlying t = some (.slice e)) (he : P.underlying e = some (.slice u)) (hb : P.underlying u = some (.int .u8)) (hB : P.bytesOf e = 24) (hB1 : P.bytesOf u = 1) :
  ∃ l : List (List UInt8), a = .lists l ∧ l.length * 24 ≤ reachBytes ∧ ∀ t ∈ l, t.length ≤ reachBytes := (h.one hu rfl).lists hu he hb hB hB1
end Go.Proofs.YthnkbagmaljjjaaDoor.VM
