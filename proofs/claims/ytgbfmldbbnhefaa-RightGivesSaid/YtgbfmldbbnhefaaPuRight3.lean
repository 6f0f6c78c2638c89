/- Grants: the laws. -/
import Derived.Test.YtgbfmldbbnhefaaPuRight2
namespace Go.Proofs.Ytgbfmldbbnhefaa.VM
open Go Go.RowKit
/-- Grants that pass the check. -/
structure GoodG (l : List GGrant) : Prop where
  len : l.length ≤ 96
  inb : ∀ g ∈ l, InB g
  srt : ∀ i, i + 1 < l.length → rk (lrd l i) < rk (lrd l (i + 1))
  std : stand l = l
theorem check_eq (l : List GGrant) : ∃ e, g_right_Check l = some e ∧ g_ref_GrantsFault l = some e ∧ (e = 0 → GoodG l) := by
  unfold g_right_Check g_ref_GrantsFault
  by_cases hlen : (l.length : Int) > 96
  · rw [if_pos hlen, if_pos hlen]
    exact ⟨1, rfl, rfl, fun h => by cases h⟩
  · rw [if_neg hlen, if_neg hlen]
    have hl : l.length ≤ 96 := by omega
    obtain ⟨r, q, h1, h2, h3, h4⟩ := loopO_rel (step := g_right_Check_l0 l) (step2 := g_ref_GrantsFault_l0 l)
      (fun i p => ∃ k : Nat, i = (k : Int) ∧ p.2 = (k : Int) ∧ k ≤ l.length ∧ p.1 = (if k = 0 then -1 else rk (lrd l (k - 1))) ∧ (∀ j, j < k → InB (lrd l j)) ∧ ∀ j, j + 1 < k → rk (lrd l j) < rk (lrd l (j + 1)))
      (fun r q => r = q ∧ ((∃ e, r = .inl e ∧ e ≠ 0) ∨ (r = .inr () ∧ (∀ j, j < l.length → InB (lrd l j)) ∧ ∀ j, j + 1 < l.length → rk (lrd l j) < rk (lrd l (j + 1)))))
      (fun i => (l.length - i).toNat) (fun i p hp => by
        obtain ⟨k, rfl, hp2, hk, hlast, hin, hs⟩ := hp
        obtain ⟨last, t⟩ := p
        simp only at hp2 hlast
        subst hp2
        unfold g_right_Check_l0 g_ref_GrantsFault_l0
        simp only
        by_cases hkl : k < l.length
        · rw [if_pos (natLt hkl), if_pos (natIn hkl), if_pos (natLt hkl), if_pos (natIn hkl), Int.toNat_natCast, bounds_eq, rbounds_eq, Option.bind_some, Option.bind_some]
          by_cases hb : bndG (lrd l k) ≠ 0
          · rw [if_pos hb, if_pos hb]
            exact .inr ⟨_, _, rfl, rfl, rfl, .inl ⟨_, rfl, hb⟩⟩
          · have hg := bndG_zero.1 (Classical.not_not.1 hb)
            rw [if_neg hb, if_neg hb, rk_eq hg, Option.bind_some, Option.bind_some, w64_succ (by omega)]
            by_cases hk0 : k = 0
            · subst hk0
              simp only [if_true] at hlast
              have := rk_pos hg
              subst hlast
              rw [if_neg (by omega), if_neg (by omega)]
              simp only [Option.bind_some, Bool.false_eq_true, if_false]
              refine .inl ⟨_, _, rfl, rfl, ⟨1, rfl, rfl, hkl, ?_, ?_, fun j hj => by omega⟩, by omega⟩
              · rw [if_neg (by decide)]
              · intro j hj
                have : j = 0 := by omega
                subst this
                exact hg
            · rw [if_neg hk0] at hlast
              have hgp := hin (k - 1) (by omega)
              have hw : w64 ((k : Int) - 1) = ((k - 1 : Nat) : Int) := by rw [w64_id (by omega)]; omega
              rw [if_pos (by omega), hw, if_pos (natIn (by omega)), Int.toNat_natCast, plc_eq, plc_eq, Option.bind_some, Option.bind_some, before_eq hgp hg]
              simp only [Option.bind_some]
              subst hlast
              by_cases hlt : rk (lrd l (k - 1)) < rk (lrd l k)
              · rw [decide_eq_true hlt]
                simp only [Bool.not_true, Bool.false_eq_true, if_false]
                rw [if_neg (by omega)]
                refine .inl ⟨_, _, rfl, rfl, ⟨k + 1, rfl, rfl, hkl, ?_, ?_, ?_⟩, by omega⟩
                · rw [if_neg (by omega), show k + 1 - 1 = k by omega]
                · intro j hj
                  by_cases hjk : j = k
                  · subst hjk; exact hg
                  · exact hin j (by omega)
                · intro j hj
                  by_cases hjk : j + 1 = k
                  · have : k - 1 = j := by omega
                    rw [this] at hlt
                    rw [hjk]
                    exact hlt
                  · exact hs j (by omega)
              · rw [decide_eq_false hlt]
                simp only [Bool.not_false, if_true]
                rw [if_pos (by omega)]
                exact .inr ⟨_, _, rfl, rfl, rfl, .inl ⟨3, rfl, by decide⟩⟩
        · have : k = l.length := by omega
          subst this
          rw [if_neg natNlt, if_neg natNlt]
          exact .inr ⟨_, _, rfl, rfl, rfl, .inr ⟨rfl, hin, hs⟩⟩) (a := (0 : Int)) (c := ((-1 : Int), (0 : Int))) ⟨0, rfl, rfl, Nat.zero_le _, rfl, fun j hj => absurd hj (Nat.not_lt_zero j), fun j hj => absurd hj (Nat.not_lt_zero _)⟩
    rw [h1, h2, ← h3]
    rcases h4 with ⟨e, rfl, he⟩ | ⟨rfl, hin, hs⟩
    · exact ⟨e, rfl, rfl, fun h => absurd h he⟩
    · have hb : ∀ g ∈ l, InB g := fun g hg => by
        obtain ⟨j, hj, rfl⟩ := mem_lrd hg
        exact hin j hj
      simp only [Option.bind_some]
      rw [held_eq hl hb, stands_eq hl hb, Option.bind_some, Option.bind_some]
      have hle : (stand l).length ≤ l.length := List.length_filter_le _ _
      by_cases hst : (stand l).length = l.length
      · rw [if_neg (by omega), if_neg (by omega)]
        exact ⟨0, rfl, rfl, fun _ => ⟨hl, hb, hs, List.filter_sublist.eq_of_length hst⟩⟩
      · rw [if_pos (by omega), if_pos (by omega)]
        exact ⟨11, rfl, rfl, fun h => by cases h⟩
theorem g_law_RightChecks_true {x0 : List GGrant} (_q0 : (okL 40 GGrant.ok) x0) : g_law_RightChecks x0 = some true := by
  obtain ⟨e, h1, h2, _⟩ := check_eq x0
  unfold g_law_RightChecks
  rw [h1, h2]
  simp
theorem sameG (a : List GGrant) (ha : a.length ≤ 1000) : g_law_sameGrants a a = some true := by
  unfold g_law_sameGrants
  rw [if_neg (by omega)]
  obtain ⟨r, h1, rfl⟩ := loopO_times (step := g_law_sameGrants_l0 a a) (σ := Unit) a.length (fun k _ => (k : Int)) (fun _ _ => True) (fun r => r = .inr ()) (fun k u hk _ => by
    unfold g_law_sameGrants_l0
    rw [if_pos (natLt hk), if_pos (natIn hk), if_pos (natIn hk), if_neg (fun h => h rfl), w64_succ (by omega)]
    exact .inl ⟨(), rfl, trivial⟩) (fun u _ => by
    unfold g_law_sameGrants_l0
    rw [if_neg natNlt]
    exact ⟨_, rfl, rfl⟩) (s := ()) trivial
  rw [show ((0 : Nat) : Int) = 0 from rfl] at h1
  rw [h1]
  rfl
theorem taken_loop {l : List GGrant} (hl : l.length ≤ 96) (hb : ∀ g ∈ l, InB g) {g : GGrant} (hg : InB g) : ∃ m, loopO (g_right_Take_l0 l g) ((0 : Int), ([] : List GGrant)) = some m ∧ loopO (g_ref_Taken_l0 l g) ((0 : Int), ([] : List GGrant)) = some m ∧ m.length ≤ 96 ∧ ∀ x ∈ m, InB x := by
  have e1 := loopO_filter (step := g_right_Take_l0 l g) l (fun k out => ((k : Int), out)) (fun h => decide (rk h ≠ rk g)) id [] (fun k out hk ho => by
    unfold g_right_Take_l0
    simp only
    have hh := hb _ (lrd_mem hk)
    rw [if_pos (natLt hk), if_pos (natIn hk), w64_succ (by omega), Int.toNat_natCast, plc_eq, plc_eq, Option.bind_some, Option.bind_some]
    by_cases h : rk (lrd l k) = rk g
    · rw [if_neg (fun q => q ((plc_rk hh hg).2 h)), decide_eq_false (Classical.not_not.2 h)]; rfl
    · rw [if_pos (fun q => h ((plc_rk hh hg).1 q)), decide_eq_true h, if_pos (show room _ _ by simp only [room, List.length_cons, List.length_nil] at ho ⊢; omega)]; rfl) (fun out => by
    unfold g_right_Take_l0
    simp only
    rw [if_neg natNlt]; rfl)
  have e2 := loopO_filter (step := g_ref_Taken_l0 l g) l (fun k out => ((k : Int), out)) (fun h => decide (rk h ≠ rk g)) id [] (fun k out hk ho => by
    unfold g_ref_Taken_l0
    simp only
    have hh := hb _ (lrd_mem hk)
    rw [if_pos (natLt hk), if_pos (natIn hk), w64_succ (by omega), Int.toNat_natCast, rk_eq hh, rk_eq hg, Option.bind_some, Option.bind_some]
    by_cases h : rk (lrd l k) = rk g
    · rw [if_neg (fun q => q h), decide_eq_false (Classical.not_not.2 h)]; rfl
    · rw [if_pos h, decide_eq_true h, if_pos (show room _ _ by simp only [room, List.length_cons, List.length_nil] at ho ⊢; omega)]; rfl) (fun out => by
    unfold g_ref_Taken_l0
    simp only
    rw [if_neg natNlt]; rfl)
  refine ⟨_, e1, e2, ?_, fun x hx => ?_⟩
  · have := List.length_filter_le (fun h => decide (rk h ≠ rk g)) l
    simp only [id, List.nil_append]
    omega
  · simp only [id, List.nil_append] at hx
    exact hb x (List.mem_filter.1 hx).1
theorem stand_len (l : List GGrant) : (stand l).length ≤ l.length := List.length_filter_le _ _
theorem g_law_RightTakes_true {x0 : List GGrant} {x1 : GGrant} (_q0 : (okL 40 GGrant.ok) x0) (_q1 : GGrant.ok x1) : g_law_RightTakes x0 x1 = some true := by
  have key : ∃ r : List GGrant × Int, g_right_Take x0 x1 = some r ∧ g_ref_Taken x0 x1 = some r ∧ r.1.length ≤ 1000 := by
    obtain ⟨e, h1, h2, h3⟩ := check_eq x0
    unfold g_right_Take g_ref_Taken
    rw [h1, h2, bounds_eq, rbounds_eq]
    simp only [Option.bind_some]
    by_cases he : e ≠ 0
    · rw [if_pos he, if_pos he]
      exact ⟨_, rfl, rfl, Nat.zero_le _⟩
    · have G := h3 (Classical.not_not.1 he)
      rw [if_neg he, if_neg he]
      by_cases hb : bndG x1 ≠ 0
      · rw [if_pos hb, if_pos hb]
        exact ⟨_, rfl, rfl, Nat.zero_le _⟩
      · have hg := bndG_zero.1 (Classical.not_not.1 hb)
        rw [if_neg hb, if_neg hb]
        obtain ⟨m, h4, h5, h6, h7⟩ := taken_loop G.len G.inb hg
        rw [h4, h5, Option.bind_some, Option.bind_some]
        by_cases hm : (m.length : Int) = x0.length
        · rw [if_pos hm, if_pos hm]
          exact ⟨_, rfl, rfl, Nat.zero_le _⟩
        · rw [if_neg hm, if_neg hm, held_eq h6 h7, stands_eq h6 h7]
          exact ⟨_, rfl, rfl, by have := stand_len m; simp only; omega⟩
  obtain ⟨r, h1, h2, h3⟩ := key
  unfold g_law_RightTakes
  rw [h1, h2]
  simp only [Option.bind_some, if_true]
  rw [sameG _ h3]
  rfl
theorem asked_eq (l : List GGrant) (u o r : Int) : ∃ e, g_right_asked l u o r = some e ∧ g_ref_rightFault l u o r = some e ∧ (e = 0 → GoodG l ∧ (0 ≤ u ∧ u < 3) ∧ (0 ≤ o ∧ o < 12)) := by
  obtain ⟨e, h1, h2, h3⟩ := check_eq l
  unfold g_right_asked g_ref_rightFault
  rw [h1, h2]
  simp only [Option.bind_some]
  by_cases he : e ≠ 0
  · rw [if_pos he]
    exact ⟨e, rfl, rfl, fun h => absurd h he⟩
  · rw [if_neg he]
    by_cases hr : ((u < 0 ∨ u ≥ 3) ∨ o < 0) ∨ o ≥ 12
    · rw [if_pos hr]
      exact ⟨6, rfl, rfl, fun h => by cases h⟩
    · rw [if_neg hr]
      by_cases hk : r ≠ 1 ∧ r ≠ 2
      · rw [if_pos hk]
        exact ⟨2, rfl, rfl, fun h => by cases h⟩
      · rw [if_neg hk]
        exact ⟨0, rfl, rfl, fun _ => ⟨h3 (Classical.not_not.1 he), by omega, by omega⟩⟩
abbrev Held3 (u o r : Int) (g : GGrant) : Prop := (g.To = u ∧ g.Object = o) ∧ g.Right = r
theorem g_law_RightHas_true {x0 : List GGrant} {x1 : Int} {x2 : Int} {x3 : Int} (_q0 : (okL 40 GGrant.ok) x0) (_q1 : okI x1) (_q2 : okI x2) (_q3 : okI x3) : g_law_RightHas x0 x1 x2 x3 = some true := by
  have key : ∃ r : Bool × Int, g_right_Has x0 x1 x2 x3 = some r ∧ g_ref_HasOf x0 x1 x2 x3 = some r := by
    obtain ⟨e, h1, h2, h3⟩ := asked_eq x0 x1 x2 x3
    unfold g_right_Has g_ref_HasOf
    rw [h1, h2]
    simp only [Option.bind_some]
    by_cases he : e ≠ 0
    · rw [if_pos he, if_pos he]
      exact ⟨_, rfl, rfl⟩
    · obtain ⟨G, hu, ho⟩ := h3 (Classical.not_not.1 he)
      rw [if_neg he, if_neg he]
      have hl := G.len
      obtain ⟨n, h4, h5⟩ := loopO_times (step := g_ref_has_l0 x0 x1 x2 x3) (σ := Int) x0.length (fun k n => (n, (k : Int))) (fun k n => 0 ≤ n ∧ n ≤ k ∧ (0 < n ↔ ∃ j, j < k ∧ Held3 x1 x2 x3 (lrd x0 j))) (fun n => 0 < n ↔ ∃ j, j < x0.length ∧ Held3 x1 x2 x3 (lrd x0 j)) (fun k n hk hn => by
        obtain ⟨n0, n1, n2⟩ := hn
        unfold g_ref_has_l0
        simp only
        rw [if_pos (natLt hk), if_pos (natIn hk), w64_succ (by omega), Int.toNat_natCast]
        by_cases hh : Held3 x1 x2 x3 (lrd x0 k)
        · rw [if_pos hh, w64_id (by omega)]
          exact .inl ⟨n + 1, rfl, by omega, by omega, fun _ => ⟨k, by omega, hh⟩, fun _ => by omega⟩
        · rw [if_neg hh]
          refine .inl ⟨n, rfl, n0, by omega, fun h => ?_, fun ⟨j, hj, hx⟩ => ?_⟩
          · obtain ⟨j, hj, hx⟩ := n2.1 h
            exact ⟨j, by omega, hx⟩
          · refine n2.2 ⟨j, ?_, hx⟩
            rcases Nat.lt_or_ge j k with h | h
            · exact h
            · have : j = k := by omega
              subst this
              exact absurd hx hh) (fun n hn => by
        unfold g_ref_has_l0
        simp only
        rw [if_neg natNlt]
        exact ⟨_, rfl, hn.2.2⟩) (s := 0) ⟨by decide, by decide, fun h => by omega, fun ⟨j, hj, _⟩ => by omega⟩
      unfold g_right_owner g_ref_has g_ref_Owner
      rw [show ((0 : Int), ((0 : Nat) : Int)) = ((0 : Int), (0 : Int)) from rfl] at h4
      rw [h4, own_w ho]
      simp only [Option.bind_some]
      by_cases hown : own x2 = x1
      · rw [if_pos hown]
        by_cases hn : n > 0
        · rw [if_pos hn]; exact ⟨_, rfl, rfl⟩
        · rw [if_neg hn, decide_eq_true hown]; exact ⟨_, rfl, rfl⟩
      · rw [if_neg hown]
        obtain ⟨r, h6, h7⟩ := loopO_times (step := g_right_Has_l0 x0 x1 x2 x3) (σ := Unit) x0.length (fun k _ => (k : Int)) (fun k _ => ∀ j, j < k → ¬ Held3 x1 x2 x3 (lrd x0 j)) (fun r => (r = .inl (true, 0) ∧ ∃ j, j < x0.length ∧ Held3 x1 x2 x3 (lrd x0 j)) ∨ (r = .inr () ∧ ∀ j, j < x0.length → ¬ Held3 x1 x2 x3 (lrd x0 j))) (fun k u hk hn => by
          unfold g_right_Has_l0
          rw [if_pos (natLt hk), if_pos (natIn hk), w64_succ (by omega), Int.toNat_natCast]
          by_cases hh : Held3 x1 x2 x3 (lrd x0 k)
          · rw [if_pos hh]
            exact .inr ⟨_, rfl, .inl ⟨rfl, k, hk, hh⟩⟩
          · rw [if_neg hh]
            refine .inl ⟨(), rfl, fun j hj => ?_⟩
            by_cases hjk : j = k
            · subst hjk; exact hh
            · exact hn j (by omega)) (fun u hn => by
          unfold g_right_Has_l0
          rw [if_neg natNlt]
          exact ⟨_, rfl, .inr ⟨rfl, hn⟩⟩) (s := ()) (fun j hj => absurd hj (Nat.not_lt_zero j))
        rw [show ((0 : Nat) : Int) = 0 from rfl] at h6
        rw [h6]
        rcases h7 with ⟨rfl, hx⟩ | ⟨rfl, hx⟩
        · rw [if_pos (h5.2 hx)]; exact ⟨_, rfl, rfl⟩
        · rw [if_neg (fun h => by obtain ⟨j, hj, hy⟩ := h5.1 h; exact hx j hj hy), decide_eq_false hown]; exact ⟨_, rfl, rfl⟩
  obtain ⟨r, h1, h2⟩ := key
  unfold g_law_RightHas
  rw [h1, h2]
  simp
open Classical in
theorem may_eq {l : List GGrant} (G : GoodG l) {u o r : Int} (hu : 0 ≤ u ∧ u < 3) (ho : 0 ≤ o ∧ o < 12) : g_right_may l u o r = some (decide (Rc l o r u)) := by
  have hl := G.len
  have hst : ∀ g ∈ l, Rc l g.Object g.Right g.From := fun g hg => by
    rw [← G.std] at hg
    exact of_decide_eq_true (List.mem_filter.1 hg).2
  unfold g_right_may g_right_owner
  rw [own_w ho, Option.bind_some]
  by_cases hown : own o = u
  · rw [if_pos hown, decide_eq_true (by rw [← hown]; exact .base)]
  · rw [if_neg hown]
    obtain ⟨q, h6, h7⟩ := loopO_times (step := g_right_may_l0 l u o r) (σ := Unit) l.length (fun k _ => (k : Int)) (fun k _ => ∀ j, j < k → ¬ (Held3 u o r (lrd l j) ∧ (lrd l j).Option = true)) (fun q => (q = .inl true ∧ ∃ j, j < l.length ∧ (Held3 u o r (lrd l j) ∧ (lrd l j).Option = true)) ∨ (q = .inr () ∧ ∀ j, j < l.length → ¬ (Held3 u o r (lrd l j) ∧ (lrd l j).Option = true))) (fun k u' hk hn => by
      unfold g_right_may_l0
      rw [if_pos (natLt hk), if_pos (natIn hk), w64_succ (by omega), letO_eq]
      simp only [Int.toNat_natCast]
      by_cases hh : Held3 u o r (lrd l k) ∧ (lrd l k).Option = true
      · rw [if_pos (decide_eq_true hh)]
        exact .inr ⟨_, rfl, .inl ⟨rfl, k, hk, hh⟩⟩
      · rw [if_neg (fun h => hh (of_decide_eq_true h))]
        refine .inl ⟨(), rfl, fun j hj => ?_⟩
        by_cases hjk : j = k
        · subst hjk; exact hh
        · exact hn j (by omega)) (fun u' hn => by
      unfold g_right_may_l0
      rw [if_neg natNlt]
      exact ⟨_, rfl, .inr ⟨rfl, hn⟩⟩) (s := ()) (fun j hj => absurd hj (Nat.not_lt_zero j))
    rw [show ((0 : Nat) : Int) = 0 from rfl] at h6
    rw [h6]
    rcases h7 with ⟨rfl, j, hj, ⟨⟨h8, h9⟩, h10⟩, h11⟩ | ⟨rfl, hx⟩
    · rw [decide_eq_true]
      · rfl
      · rw [← h8]
        have := hst _ (lrd_mem hj)
        rw [h9, h10] at this
        exact .step _ (lrd_mem hj) h11 h9 h10 this
    · rw [decide_eq_false]
      · rfl
      · intro h
        cases h with
        | base => exact hown rfl
        | step g hg h1 h2 h3 _ =>
          obtain ⟨j, hj, rfl⟩ := mem_lrd hg
          exact hx j hj ⟨⟨⟨rfl, h2⟩, h3⟩, h1⟩
theorem g_law_RightMay_true {x0 : List GGrant} {x1 : Int} {x2 : Int} {x3 : Int} (_q0 : (okL 40 GGrant.ok) x0) (_q1 : okI x1) (_q2 : okI x2) (_q3 : okI x3) : g_law_RightMay x0 x1 x2 x3 = some true := by
  have key : ∃ r : Bool × Int, g_right_May x0 x1 x2 x3 = some r ∧ g_ref_MayOf x0 x1 x2 x3 = some r := by
    obtain ⟨e, h1, h2, h3⟩ := asked_eq x0 x1 x2 x3
    unfold g_right_May g_ref_MayOf
    rw [h1, h2]
    simp only [Option.bind_some]
    by_cases he : e ≠ 0
    · rw [if_pos he, if_pos he]
      exact ⟨_, rfl, rfl⟩
    · obtain ⟨G, hu, ho⟩ := h3 (Classical.not_not.1 he)
      rw [if_neg he, if_neg he, may_eq G hu ho, reached_eq G.len G.inb hu ho]
      exact ⟨_, rfl, rfl⟩
  obtain ⟨r, h1, h2⟩ := key
  unfold g_law_RightMay
  rw [h1, h2]
  simp
end Go.Proofs.Ytgbfmldbbnhefaa.VM
