/- SHA-256: the laws of sum. -/
import Derived.Test.YtkaeboabpahemaaDoorPuSha4
namespace Go.Proofs.YtkaeboabpahemaaDoor.VM
open Go Go.RowKit
theorem rest_loop {rest : List UInt8} (hl : rest.length < 64) {o : GStream} (ho : o.Held = Vector.replicate 64 0) : ∃ o', loopO (g_ref_Added_l0 rest) ((0 : Int), o) = some o' ∧ o'.H = o.H ∧ o'.N = o.N ∧ o'.Len = o.Len ∧ o'.Held.toList = rest ++ List.replicate (64 - rest.length) 0 := by
  obtain ⟨r, h1, h2⟩ := loopO_times (step := g_ref_Added_l0 rest) (σ := GStream) rest.length (fun k o => ((k : Int), o)) (fun k x => x.H = o.H ∧ x.N = o.N ∧ x.Len = o.Len ∧ x.Held.toList = rest.take k ++ List.replicate (64 - k) 0) (fun x => x.H = o.H ∧ x.N = o.N ∧ x.Len = o.Len ∧ x.Held.toList = rest ++ List.replicate (64 - rest.length) 0) (fun k x hk h => by
    obtain ⟨h1, h2, h3, h4⟩ := h
    unfold g_ref_Added_l0
    simp only
    rw [if_pos (natLt hk), if_pos (natIn hk), if_pos (by omega), letO_eq, w64_succ (by omega), Int.toNat_natCast]
    refine .inl ⟨_, rfl, h1, h2, h3, ?_⟩
    simp only
    have hp : (rest.take k).length = k := by rw [List.length_take]; omega
    have hs := set_pad (p := rest.take k) (k := 63 - k) (c := lrd rest k)
    rw [hp] at hs
    rw [vwr_list, h4, show 64 - k = (63 - k) + 1 by omega, hs, take_step hk, show 64 - (k + 1) = 63 - k by omega]) (fun x h => by
    unfold g_ref_Added_l0
    simp only
    rw [if_neg natNlt]
    refine ⟨_, rfl, h.1, h.2.1, h.2.2.1, ?_⟩
    rw [h.2.2.2, List.take_length]) (s := o) ⟨rfl, rfl, rfl, by rw [ho]; rfl⟩
  exact ⟨r, h1, h2⟩
theorem modC {n : Nat} : (n : Int).tmod 64 = ((n % 64 : Nat) : Int) := rfl
open Classical in
/-- A stream in order takes bytes on. -/
theorem added_ref {s : GStream} (h : Ok8 s) {b : List UInt8} (hb : b.length ≤ 140737488355328) (hs : s.Len + b.length ≤ 1152921504606846976) : ∃ s', g_ref_Added s b = some (s', 0) ∧ g_sum_feed s b = some s' ∧ Fits8 s' (b.foldl sstep (s.H, s.Held.toList.take s.N.toNat)) := by
  have f := h.fits
  have l0 := h.l0
  have l1 := h.l1
  unfold g_ref_Added
  rw [bad_ok, decide_eq_false (show ¬ ¬ Ok8 s from Classical.not_not.2 h), Option.bind_some]
  simp only [Bool.false_eq_true, if_false]
  rw [w64_id (by omega)]
  rw [if_neg (by omega)]
  obtain ⟨s', h1, h2, h3⟩ := feed_ok hb f
  rw [held_cut f, Option.bind_some]
  have flt := f.lt
  simp only at flt
  generalize hheld : s.Held.toList.take s.N.toNat = held at *
  dsimp only
  rw [if_pos (by omega), blocks_S, Option.bind_some, letO_eq]
  have hall : (held ++ b).length = held.length + b.length := List.length_append
  have hSb : S s.H (held ++ b) = b.foldl sstep (s.H, held) := by rw [S_app, S_few flt]
  have hSr := S_rest _ s.H (held ++ b) rfl
  have hSl := S_len _ s.H (held ++ b) rfl
  generalize hn : (held ++ b).length = n at *
  rw [modC, w64_id (by omega), if_pos (by omega), letO_eq]
  have hcut : cut (held ++ b) ((n : Int) - ((n % 64 : Nat) : Int)) (n : Int) = (S s.H (held ++ b)).2 := by
    rw [hSr]
    show ((held ++ b).drop ((n : Int) - ((n % 64 : Nat) : Int)).toNat).take ((n : Int).toNat - ((n : Int) - ((n % 64 : Nat) : Int)).toNat) = _
    rw [show ((n : Int) - ((n % 64 : Nat) : Int)).toNat = n - n % 64 by omega, List.take_of_length_le (by rw [List.length_drop, hn]; omega)]
  rw [hcut]
  obtain ⟨o, h4, h5, h6, h7, h8⟩ := rest_loop (rest := (S s.H (held ++ b)).2) (by omega) (o := { GStream.zero with H := (S s.H (held ++ b)).1, Len := w64 (s.Len + (b.length : Int)), N := ((S s.H (held ++ b)).2.length : Int) }) rfl
  have h4' : loopO (g_ref_Added_l0 (S s.H (held ++ b)).2) ((0 : Int), { { { GStream.zero with H := (S s.H (held ++ b)).1 } with Len := w64 (s.Len + (b.length : Int)) } with N := ((S s.H (held ++ b)).2.length : Int) }) = some o := h4
  rw [h4', Option.bind_some]
  have fo : Fits8 o (b.foldl sstep (s.H, held)) := by
    rw [← hSb]
    exact ⟨h5, h6, by omega, h8⟩
  have : s' = o := Fits8.eq h2 fo (by rw [h3, h7])
  subst this
  exact ⟨_, rfl, h1, h2⟩
def hashIV : Vector UInt32 8 := #v[(1779033703 : UInt32), (3144134277 : UInt32), (1013904242 : UInt32), (2773480762 : UInt32), (1359893119 : UInt32), (2600822924 : UInt32), (528734635 : UInt32), (1541459225 : UInt32)]
def start8 : GStream := { GStream.zero with H := hashIV }
theorem begin_eq : g_sum_Begin = some start8 := rfl
theorem hex_firsts : ((List.range 8).all fun i => hexOk g_ref_Begun_t0 i (vrd hashIV i)) = true := by decide +kernel
theorem begun_eq : g_ref_Begun = some start8 := by
  unfold g_ref_Begun
  obtain ⟨r, h1, h2⟩ := loopO_times (step := g_ref_Begun_l0) (σ := GStream) 8 (fun k o => ((k : Int), o)) (fun k x => x.Held = GStream.zero.Held ∧ x.N = 0 ∧ x.Len = 0 ∧ ∀ j, j < k → vrd x.H j = vrd hashIV j) (fun x => x = start8) (fun k x hk h => by
    obtain ⟨h1, h2, h3, h4⟩ := h
    unfold g_ref_Begun_l0
    simp only
    have hh : g_ref_hexWord g_ref_Begun_t0 (k : Int) = some (vrd hashIV k) := hex_of (List.all_eq_true.1 hex_firsts k (List.mem_range.2 hk))
    rw [if_pos (by omega), hh, Option.bind_some, if_pos (by omega), w64_succ (by omega), Int.toNat_natCast]
    refine .inl ⟨_, rfl, h1, h2, h3, fun j hj => ?_⟩
    simp only
    by_cases hjk : j = k
    · subst hjk; rw [vrd_vwr_eq hk]
    · rw [vrd_vwr_ne (by omega) hjk]; exact h4 j (by omega)) (fun x h => by
    unfold g_ref_Begun_l0
    simp only
    rw [if_neg (by decide)]
    refine ⟨_, rfl, ?_⟩
    obtain ⟨h1, h2, h3, h4⟩ := h
    cases x
    simp only at h1 h2 h3 h4
    have := vec_eq_of h4
    subst this h1 h2 h3
    rfl) (s := GStream.zero) ⟨rfl, rfl, rfl, fun j hj => absurd hj (Nat.not_lt_zero j)⟩
  rw [show ((0 : Nat) : Int) = 0 from rfl] at h1
  rw [h1, h2]
  rfl
theorem start_ok : Ok8 start8 := ⟨by decide, by decide, rfl, fun j _ hj => by
  rw [vrd_at hj]
  simp [start8, GStream.zero]⟩
theorem sum_eq (l : List UInt8) (hl : l.length ≤ 140737488355328) : ∃ v, g_sum_Sum l = some v ∧ g_ref_Summed l = some v := by
  obtain ⟨s', h2, h4, h5⟩ := added_ref start_ok hl (by show (0 : Int) + _ ≤ _; omega)
  obtain ⟨v, h6, h7⟩ := end_eq h5
  unfold g_sum_Sum g_ref_Summed
  rw [begin_eq, begun_eq, Option.bind_some, Option.bind_some, h4, h2, Option.bind_some, Option.bind_some, h6, h7]
  exact ⟨v, rfl, rfl⟩
theorem okB {l : List UInt8} (h : (okL 1 okA) l) : l.length ≤ 140737488355328 := by
  have := h.1
  simp only [reachBytes] at this
  omega
end Go.Proofs.YtkaeboabpahemaaDoor.VM
