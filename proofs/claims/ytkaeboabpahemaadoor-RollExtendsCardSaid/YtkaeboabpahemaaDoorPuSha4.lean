/- SHA-256: streams and their ends. -/
import Derived.Test.YtkaeboabpahemaaDoorPuSha3
namespace Go.Proofs.YtkaeboabpahemaaDoor.VM
open Go Go.RowKit
/-- The bytes of a number, the highest one first. -/
def bigL : Nat → UInt64 → List UInt8
  | 0, _ => []
  | k + 1, n => bigL k (shr_u64 n 8) ++ [n.toUInt8]
theorem bigL_len : ∀ (k : Nat) (n : UInt64), (bigL k n).length = k
  | 0, _ => rfl
  | k + 1, n => by rw [bigL, List.length_append, bigL_len k]; rfl
theorem big_eq (n : UInt64) (k : Nat) (hk : k ≤ 100) : g_ref_big n (k : Int) = some (bigL k n) := by
  unfold g_ref_big
  obtain ⟨r, h1, rfl⟩ := loopO_times (step := g_ref_big_l0 (k : Int)) (σ := UInt64 × List UInt8) k (fun j p => (p.1, p.2, (j : Int))) (fun j p => bigL k n = bigL (k - j) p.1 ++ p.2 ∧ p.2.length = j) (fun r => r = bigL k n) (fun j p hj hp => by
    obtain ⟨m, s⟩ := p
    obtain ⟨h1, h2⟩ := hp
    simp only at h1 h2
    unfold g_ref_big_l0
    simp only
    rw [if_pos (natLt hj), if_pos (by simp only [List.length_cons, List.length_nil]; omega), w64_succ (by omega)]
    refine .inl ⟨(shr_u64 m 8, [m.toUInt8] ++ s), rfl, ?_, by simp only [List.length_append, List.length_cons, List.length_nil]; omega⟩
    rw [h1, show k - j = (k - (j + 1)) + 1 by omega, bigL]
    simp) (fun p hp => by
    obtain ⟨m, s⟩ := p
    obtain ⟨h1, h2⟩ := hp
    unfold g_ref_big_l0
    simp only
    rw [if_neg natNlt]
    refine ⟨_, rfl, ?_⟩
    rw [h1, Nat.sub_self]
    rfl) (s := (n, [])) ⟨by simp, rfl⟩
  simp only at h1
  rw [show ((0 : Nat) : Int) = 0 from rfl] at h1
  rw [h1]
  rfl
theorem shr_shr (n : UInt64) (a b : Nat) : shr_u64 (shr_u64 n a) b = shr_u64 n (a + b) := by
  apply UInt64.toBitVec_inj.1
  show (n.toBitVec >>> a) >>> b = n.toBitVec >>> (a + b)
  rw [BitVec.shiftRight_add]
theorem bigL8 (n : UInt64) : bigL 8 n = (List.range 8).map fun k => (shr_u64 n (56 - 8 * k)).toUInt8 := by
  have h0 : shr_u64 n 0 = n := by
    apply UInt64.toBitVec_inj.1
    show n.toBitVec >>> 0 = n.toBitVec
    simp
  simp only [bigL, shr_shr, List.nil_append, List.cons_append, List.range, List.range.loop, List.map_cons, List.map_nil]
  simp [h0]
theorem bigL4 (x : UInt32) : bigL 4 x.toUInt64 = [(shr_u32 x 24).toUInt8, (shr_u32 x 16).toUInt8, (shr_u32 x 8).toUInt8, (shr_u32 x 0).toUInt8] := by
  have e : ∀ k, (shr_u64 x.toUInt64 k).toUInt8 = (shr_u32 x k).toUInt8 := by
    intro k
    apply UInt8.toNat_inj.1
    rw [UInt64.toNat_toUInt8, UInt32.toNat_toUInt8]
    congr 1
  have e0 : x.toUInt64.toUInt8 = (shr_u32 x 0).toUInt8 := by
    rw [← e 0]
    congr 1
  simp only [bigL, shr_shr, List.nil_append, List.cons_append, e, e0]
theorem held_cut {s : GStream} {st : HP} (f : Fits8 s st) : g_ref_heldOf s = some st.2 := by
  unfold g_ref_heldOf
  have hlt := f.lt
  have hN := f.n
  rw [if_pos (by rw [hN]; refine ⟨by omega, ?_⟩; rw [show s.Held.toList.length = 64 from vlen _]; omega)]
  congr 1
  show (s.Held.toList.drop (0 : Int).toNat).take (s.N.toNat - (0 : Int).toNat) = _
  rw [f.held, hN]
  simp
theorem S_app (h : Vector UInt32 8) (l m : List UInt8) : S h (l ++ m) = m.foldl sstep (S h l) := List.foldl_append
theorem zeros_loop {h : Vector UInt32 8} {s : GStream} {all : List UInt8} (f : Fits8 s (S h all)) (hl : all.length ≤ 200) : ∃ s' all', loopO g_sum_end_l0 s = some s' ∧ loopO g_ref_ended_l0 all = some all' ∧ Fits8 s' (S h all') ∧ all'.length ≤ 300 := by
  refine loopO_rel (step := g_sum_end_l0) (step2 := g_ref_ended_l0) (fun s all => Fits8 s (S h all) ∧ all.length + (120 - all.length % 64) % 64 ≤ 263) (fun s' all' => Fits8 s' (S h all') ∧ all'.length ≤ 300) (fun s => (120 - s.N.toNat) % 64) (fun s all hp => ?_) ⟨f, by omega⟩
  obtain ⟨f, hb⟩ := hp
  have hlen := S_len _ h all rfl
  have hN := f.n
  have hm : (all.length : Int).tmod 64 = ((all.length % 64 : Nat) : Int) := rfl
  unfold g_sum_end_l0 g_ref_ended_l0
  by_cases hc : all.length % 64 = 56
  · rw [if_neg (by omega), if_neg (by omega)]
    exact .inr ⟨_, _, rfl, rfl, f, by omega⟩
  · rw [if_pos (by omega), if_pos (by omega), if_pos (by simp only [List.length_cons, List.length_nil]; omega)]
    obtain ⟨s', h1, h2, _⟩ := feed_ok (l := [0]) (by decide) f
    rw [h1, Option.bind_some]
    have h3 : Fits8 s' (S h (all ++ [0])) := by rw [S_app]; exact h2
    have hlen2 := S_len _ h (all ++ [0]) rfl
    have hN2 := h3.n
    simp only [List.length_append, List.length_cons, List.length_nil] at hlen2
    refine .inl ⟨_, _, rfl, rfl, ⟨h3, ?_⟩, ?_⟩
    · simp only [List.length_append, List.length_cons, List.length_nil]; omega
    · omega
theorem bytes_loop (s0 : GStream) {st : HP} {s : GStream} (f : Fits8 s st) : ∃ s', loopO (g_sum_end_l1 s0) ((56 : Int), s) = some s' ∧ Fits8 s' ((bigL 8 ((UInt64.ofInt s0.Len) * 8)).foldl sstep st) := by
  rw [bigL8]
  generalize hn : (UInt64.ofInt s0.Len) * 8 = n
  generalize hbs : ((List.range 8).map fun k => (shr_u64 n (56 - 8 * k)).toUInt8) = bs
  have hlen : bs.length = 8 := by rw [← hbs]; simp
  have h := loopO_times (step := g_sum_end_l1 s0) (σ := GStream) 8 (fun k s => ((56 : Int) - 8 * (k : Int), s)) (fun k s => Fits8 s ((bs.take k).foldl sstep st)) (fun s' => Fits8 s' (bs.foldl sstep st)) (fun k s hk fs => by
    unfold g_sum_end_l1
    simp only
    rw [if_pos (by omega), if_pos (by omega), hn]
    obtain ⟨s', h1, h2, _⟩ := feed_ok (l := [(shr_u64 n ((56 : Int) - 8 * (k : Int)).toNat).toUInt8]) (show 1 ≤ 140737488355328 by decide) fs
    rw [h1, Option.bind_some, w64_id (by omega)]
    refine .inl ⟨s', ?_, ?_⟩
    · congr 3; omega
    · rw [take_step (by omega), List.foldl_append]
      have : lrd bs k = (shr_u64 n ((56 : Int) - 8 * (k : Int)).toNat).toUInt8 := by
        rw [lrd_at (by omega)]
        subst hbs
        simp only [List.getElem_map, List.getElem_range]
        congr 2
        omega
      rw [this]
      exact h2) (fun s fs => by
    unfold g_sum_end_l1
    simp only
    rw [if_neg (by omega)]
    refine ⟨_, rfl, ?_⟩
    rw [List.take_of_length_le (by omega)] at fs
    exact fs) (s := s) (by simpa using f)
  exact h
/-- What comes of the words at the end. -/
def outB (H : Vector UInt32 8) (j : Nat) : UInt8 := (shr_u32 (vrd H (j / 4)) (24 - 8 * (j % 4))).toUInt8
theorem out_impl (y : GStream) : ∃ v, loopO (g_sum_end_l2 y) ((0 : Int), Vector.replicate 32 (0 : UInt8)) = some v ∧ ∀ j, j < 32 → vrd v j = outB y.H j := by
  refine loopO_times (step := g_sum_end_l2 y) (σ := Vector UInt8 32) 32 (fun k v => ((k : Int), v)) (fun k v => ∀ j, j < k → vrd v j = outB y.H j) _ (fun k v hk h => ?_) (fun v h => ?_) (fun j hj => absurd hj (Nat.not_lt_zero j))
  · unfold g_sum_end_l2
    simp only
    have e1 : (k : Int).tdiv 4 = ((k / 4 : Nat) : Int) := rfl
    have e2 : (k : Int).tmod 4 = ((k % 4 : Nat) : Int) := rfl
    rw [if_pos (by omega), e1, e2, w64_id (by omega), w64_id (n := 8 * ((k % 4 : Nat) : Int)) (by omega), w64_id (n := 24 - 8 * ((k % 4 : Nat) : Int)) (by omega), w64_succ (by omega), if_pos (by omega), if_pos (by omega), if_pos (by omega), letO_eq]
    refine .inl ⟨_, rfl, fun j hj => ?_⟩
    by_cases hjk : j = k
    · subst hjk
      rw [Int.toNat_natCast, vrd_vwr_eq hk]
      unfold outB
      congr 2
      omega
    · rw [Int.toNat_natCast, vrd_vwr_ne (by omega) hjk]
      exact h j (by omega)
  · unfold g_sum_end_l2
    simp only
    rw [if_neg (by decide)]
    exact ⟨v, rfl, h⟩
theorem text_ref (H : Vector UInt32 8) : ∃ t, loopO (g_ref_ended_l1 H) ([], (0 : Int)) = some t ∧ t.length = 32 ∧ ∀ j, j < 32 → lrd t j = outB H j := by
  refine loopO_times (step := g_ref_ended_l1 H) (σ := List UInt8) 8 (fun k t => (t, (k : Int))) (fun k t => t.length = 4 * k ∧ ∀ j, j < 4 * k → lrd t j = outB H j) _ (fun k t hk h => ?_) (fun t h => ?_) ⟨rfl, fun j hj => absurd hj (Nat.not_lt_zero j)⟩
  · unfold g_ref_ended_l1
    simp only
    have hb := big_eq (vrd H k).toUInt64 4 (by decide)
    rw [show ((4 : Nat) : Int) = 4 from rfl] at hb
    rw [if_pos (by omega), if_pos (by omega), w64_succ (by omega), Int.toNat_natCast, hb, Option.bind_some, if_pos (by rw [bigL_len, h.1]; omega)]
    refine .inl ⟨_, rfl, by rw [List.length_append, bigL_len, h.1]; omega, fun j hj => ?_⟩
    by_cases hjk : j < 4 * k
    · rw [lrd_app_lt (by omega)]
      exact h.2 j hjk
    · rw [lrd_app_ge (by omega), h.1, bigL4]
      obtain ⟨m, hm, rfl⟩ : ∃ m, m < 4 ∧ j = 4 * k + m := ⟨j - 4 * k, by omega, by omega⟩
      unfold outB
      rw [show 4 * k + m - 4 * k = m by omega, show (4 * k + m) / 4 = k by omega, show (4 * k + m) % 4 = m by omega]
      match m, hm with
      | 0, _ => rfl
      | 1, _ => rfl
      | 2, _ => rfl
      | 3, _ => rfl
  · unfold g_ref_ended_l1
    simp only
    rw [if_neg (by decide)]
    exact ⟨t, rfl, h⟩
theorem out_ref {t : List UInt8} (ht : t.length = 32) : ∃ v, loopO (g_ref_ended_l2 t) ((0 : Int), Vector.replicate 32 (0 : UInt8)) = some v ∧ ∀ j, j < 32 → vrd v j = lrd t j := by
  refine loopO_times (step := g_ref_ended_l2 t) (σ := Vector UInt8 32) 32 (fun k v => ((k : Int), v)) (fun k v => ∀ j, j < k → vrd v j = lrd t j) _ (fun k v hk h => ?_) (fun v h => ?_) (fun j hj => absurd hj (Nat.not_lt_zero j))
  · unfold g_ref_ended_l2
    simp only
    rw [if_pos (by omega), if_pos (by omega), if_pos (by omega), w64_succ (by omega), Int.toNat_natCast]
    refine .inl ⟨_, rfl, fun j hj => ?_⟩
    by_cases hjk : j = k
    · subst hjk; rw [vrd_vwr_eq hk]
    · rw [vrd_vwr_ne (by omega) hjk]
      exact h j (by omega)
  · unfold g_ref_ended_l2
    simp only
    rw [if_neg (by decide)]
    exact ⟨v, rfl, h⟩
/-- The end of a stream. -/
theorem end_eq {s : GStream} {st : HP} (f : Fits8 s st) : ∃ v, g_sum_end s = some v ∧ g_ref_ended s = some v := by
  have hlt := f.lt
  have hst : S s.H st.2 = st := by rw [S_few hlt, f.h]
  unfold g_sum_end g_ref_ended
  obtain ⟨s1, h1, h2, _⟩ := feed_ok (l := [128]) (by decide) f
  rw [h1, Option.bind_some, held_cut f, Option.bind_some, if_pos (by simp only [List.length_cons, List.length_nil]; omega)]
  have f1 : Fits8 s1 (S s.H (st.2 ++ [128])) := by rw [S_app, hst]; exact h2
  obtain ⟨s2, all, h3, h4, f2, hl⟩ := zeros_loop f1 (by simp only [List.length_append, List.length_cons, List.length_nil]; omega)
  rw [h3, h4, Option.bind_some, Option.bind_some]
  obtain ⟨s3, h5, f3⟩ := bytes_loop s f2
  rw [← S_app] at f3
  have hb := big_eq ((UInt64.ofInt s.Len) * 8) 8 (by decide)
  rw [show ((8 : Nat) : Int) = 8 from rfl] at hb
  rw [h5, hb, Option.bind_some, Option.bind_some, if_pos (by rw [bigL_len]; omega), blocks_S, Option.bind_some]
  obtain ⟨v, h6, h7⟩ := out_impl s3
  obtain ⟨t, h8, h9, h10⟩ := text_ref (S s.H (all ++ bigL 8 ((UInt64.ofInt s.Len) * 8))).1
  obtain ⟨w, h11, h12⟩ := out_ref h9
  rw [h6, h8, Option.bind_some, Option.bind_some, h11]
  refine ⟨v, rfl, ?_⟩
  rw [Option.bind_some]
  congr 1
  refine vec_eq_of fun j hj => ?_
  rw [h12 j hj, h10 j hj, h7 j hj, f3.h]
/-! Streams that are in order -/
structure Ok8 (s : GStream) : Prop where
  l0 : 0 ≤ s.Len
  l1 : s.Len ≤ 1152921504606846976
  n : s.N = s.Len.tmod 64
  z : ∀ j, s.N.toNat ≤ j → j < 64 → vrd s.Held j = 0
theorem ok_n {s : GStream} (h0 : 0 ≤ s.Len) (h : s.N = s.Len.tmod 64) : 0 ≤ s.N ∧ s.N < 64 := by
  rw [Int.tmod_eq_emod_of_nonneg h0] at h
  omega
open Classical in
theorem bad_ok (s : GStream) : g_ref_badStream s = some (decide (¬ Ok8 s)) := by
  unfold g_ref_badStream
  by_cases hc : (s.Len < 0 ∨ s.Len > 1152921504606846976) ∨ s.N ≠ s.Len.tmod 64
  · rw [if_pos hc, decide_eq_true]
    intro h
    have := h.l0; have := h.l1; have := h.n
    omega
  · rw [if_neg hc]
    have hn := ok_n (s := s) (by omega) (by omega)
    obtain ⟨r, h1, h2⟩ := loopO_times (step := g_ref_badStream_l0 s) (σ := Unit) 64 (fun k _ => (k : Int)) (fun k _ => ∀ j, s.N.toNat ≤ j → j < k → vrd s.Held j = 0) (fun r => (r = .inl true ∧ ∃ j, s.N.toNat ≤ j ∧ j < 64 ∧ vrd s.Held j ≠ 0) ∨ (r = .inr () ∧ ∀ j, s.N.toNat ≤ j → j < 64 → vrd s.Held j = 0)) (fun k u hk h => by
      unfold g_ref_badStream_l0
      rw [if_pos (by omega), if_pos (by omega), Int.toNat_natCast, w64_succ (by omega)]
      by_cases hz : (k : Int) ≥ s.N ∧ vrd s.Held k ≠ 0
      · rw [if_pos hz]
        exact .inr ⟨_, rfl, .inl ⟨rfl, _, by omega, hk, hz.2⟩⟩
      · rw [if_neg hz]
        refine .inl ⟨(), rfl, fun j hj1 hj2 => ?_⟩
        by_cases hjk : j = k
        · subst hjk
          exact Classical.byContradiction fun q => hz ⟨by omega, q⟩
        · exact h j hj1 (by omega)) (fun u h => by
      unfold g_ref_badStream_l0
      rw [if_neg (by decide)]
      exact ⟨_, rfl, .inr ⟨rfl, h⟩⟩) (s := ()) (fun j hj1 hj2 => by omega)
    rw [show ((0 : Nat) : Int) = 0 from rfl] at h1
    rw [h1]
    rcases h2 with ⟨rfl, j, h3, h4, h5⟩ | ⟨rfl, h3⟩
    · rw [decide_eq_true (show ¬ Ok8 s from fun h => h5 (h.z j h3 h4))]; rfl
    · rw [decide_eq_false (show ¬ ¬ Ok8 s from Classical.not_not.2 ⟨by omega, by omega, by omega, h3⟩)]; rfl
theorem Ok8.fits {s : GStream} (h : Ok8 s) : Fits8 s (s.H, s.Held.toList.take s.N.toNat) := by
  have hn := ok_n h.l0 h.n
  have hl : s.Held.toList.length = 64 := vlen _
  have ht : (s.Held.toList.take s.N.toNat).length = s.N.toNat := by rw [List.length_take]; omega
  refine ⟨rfl, by simp only; omega, by simp only; omega, ?_⟩
  simp only
  rw [ht]
  conv => lhs; rw [← List.take_append_drop s.N.toNat s.Held.toList]
  congr 1
  rw [List.eq_replicate_iff]
  refine ⟨by rw [List.length_drop]; omega, fun b hb => ?_⟩
  obtain ⟨i, hi, rfl⟩ := List.getElem_of_mem hb
  rw [List.length_drop] at hi
  rw [List.getElem_drop]
  have := h.z (s.N.toNat + i) (by omega) (by omega)
  rw [vrd_at (by omega)] at this
  exact this
end Go.Proofs.YtkaeboabpahemaaDoor.VM
