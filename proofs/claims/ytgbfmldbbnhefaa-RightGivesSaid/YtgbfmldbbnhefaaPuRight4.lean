/- Grants: a right that is given. -/
import Derived.Test.YtgbfmldbbnhefaaPuRight3
namespace Go.Proofs.Ytgbfmldbbnhefaa.VM
open Go Go.RowKit
theorem srt_lt {l : List GGrant} (h : ∀ i, i + 1 < l.length → rk (lrd l i) < rk (lrd l (i + 1))) : ∀ (d i : Nat), i + (d + 1) < l.length → rk (lrd l i) < rk (lrd l (i + (d + 1)))
  | 0, i, hi => h i hi
  | d + 1, i, hi => by
    have h1 := srt_lt h d i (by omega)
    have h2 := h (i + (d + 1)) (by omega)
    rw [show i + (d + 1 + 1) = i + (d + 1) + 1 by omega]
    omega
theorem srt_take {l : List GGrant} (h : ∀ i, i + 1 < l.length → rk (lrd l i) < rk (lrd l (i + 1))) {k : Nat} (hk : k < l.length) {x : GGrant} (hx : x ∈ l.take k) : rk x < rk (lrd l k) := by
  obtain ⟨j, hj, rfl⟩ := List.getElem_of_mem hx
  rw [List.length_take] at hj
  rw [List.getElem_take, ← lrd_at (by omega)]
  have := srt_lt h (k - j - 1) j (by omega)
  rwa [show j + (k - j - 1 + 1) = k by omega] at this
def lowG (n : Int) (m : List GGrant) : List GGrant := m.filter fun h => decide (rk h < n)
def highG (n : Int) (m : List GGrant) : List GGrant := m.filter fun h => decide (n < rk h)
/-- The grant that is given, with what was there. -/
def mixG (g : GGrant) (m : List GGrant) : GGrant := { g with Option := g.Option || m.any fun h => decide (rk h = rk g) && h.Option }
theorem mix_rk (g : GGrant) (m : List GGrant) : rk (mixG g m) = rk g := rfl
theorem mix_inb {g : GGrant} (h : InB g) (m : List GGrant) : InB (mixG g m) := ⟨h.f0, h.f1, h.t0, h.t1, h.o0, h.o1, h.r, h.ft, h.ot⟩
theorem mix_snoc_eq {g h : GGrant} {m : List GGrant} (e : rk h = rk g) : mixG g (m ++ [h]) = { mixG g m with Option := (mixG g m).Option || h.Option } := by
  unfold mixG
  simp [e, Bool.or_assoc]
theorem mix_snoc_ne {g h : GGrant} {m : List GGrant} (e : rk h ≠ rk g) : mixG g (m ++ [h]) = mixG g m := by
  unfold mixG
  simp [e]
theorem low_snoc {n : Int} {h : GGrant} {m : List GGrant} : lowG n (m ++ [h]) = lowG n m ++ (if rk h < n then [h] else []) := by
  unfold lowG
  by_cases e : rk h < n <;> simp [e]
theorem high_snoc {n : Int} {h : GGrant} {m : List GGrant} : highG n (m ++ [h]) = highG n m ++ (if n < rk h then [h] else []) := by
  unfold highG
  by_cases e : n < rk h <;> simp [e]
theorem high_nil {n : Int} {m : List GGrant} (h : ∀ x ∈ m, rk x ≤ n) : highG n m = [] := by
  unfold highG
  rw [List.filter_eq_nil_iff]
  intro x hx
  have := h x hx
  simp; omega
/-- What right.Give has come to behind the grants m. -/
def giveS (g : GGrant) (m : List GGrant) : Bool × GGrant × List GGrant :=
  if highG (rk g) m = [] then (false, mixG g m, lowG (rk g) m) else (true, mixG g m, lowG (rk g) m ++ [mixG g m] ++ highG (rk g) m)
theorem low_len (n : Int) (m : List GGrant) : (lowG n m).length ≤ m.length := List.length_filter_le _ _
theorem high_len (n : Int) (m : List GGrant) : (highG n m).length ≤ m.length := List.length_filter_le _ _
theorem give_loop {l : List GGrant} (G : GoodG l) {g : GGrant} (hg : InB g) : loopO (g_right_Give_l0 l) (false, (0 : Int), g, ([] : List GGrant)) = some (giveS g l) := by
  have hl := G.len
  obtain ⟨r, h1, rfl⟩ := loopO_times (step := g_right_Give_l0 l) (σ := Bool × GGrant × List GGrant) l.length (fun k p => (p.1, (k : Int), p.2.1, p.2.2)) (fun k p => p = giveS g (l.take k)) (fun r => r = giveS g l) (fun k p hk hp => by
    subst hp
    have hh := G.inb _ (lrd_mem hk)
    have hlt : ∀ x ∈ l.take k, rk x < rk (lrd l k) := fun x hx => srt_take G.srt hk hx
    have hms := mix_inb hg (l.take k)
    have hmk : rk (mixG g (l.take k)) = rk g := mix_rk g _
    have hL := low_len (rk g) (l.take k)
    have hH := high_len (rk g) (l.take k)
    have htk : (l.take k).length = k := by rw [List.length_take]; omega
    refine .inl ⟨giveS g (l.take (k + 1)), ?_, rfl⟩
    rw [take_step hk]
    generalize l.take k = m at *
    unfold g_right_Give_l0
    generalize hgs : giveS g m = p
    obtain ⟨b, g3, out⟩ := p
    simp only
    rw [if_pos (natLt hk), if_pos (natIn hk), w64_succ (by omega), Int.toNat_natCast, plc_eq, plc_eq]
    simp only [Option.bind_some]
    generalize lrd l k = h at *
    have hg3 : g3 = mixG g m := by
      unfold giveS at hgs
      split at hgs <;> (simp only [Prod.mk.injEq] at hgs; exact hgs.2.1.symm)
    subst hg3
    by_cases he : rk h = rk g
    · -- the same place
      have hn : highG (rk g) m = [] := high_nil fun x hx => by have := hlt x hx; omega
      unfold giveS at hgs
      rw [if_pos hn] at hgs
      simp only [Prod.mk.injEq] at hgs
      obtain ⟨rfl, _, rfl⟩ := hgs
      rw [if_pos ((plc_rk hh hms).2 (by rw [hmk]; exact he)), letO_eq]
      unfold giveS
      have hn2 : highG (rk g) (m ++ [h]) = [] := by rw [high_snoc, hn, if_neg (by omega)]; rfl
      rw [if_pos hn2, mix_snoc_eq he, low_snoc, if_neg (by omega), List.append_nil]
      simp only [Option.bind_some]
      congr 6
      cases (mixG g m).Option <;> cases h.Option <;> rfl
    · rw [if_neg (fun q => he (by rw [← hmk]; exact (plc_rk hh hms).1 q)), before_eq hms hh, hmk]
      simp only [Option.bind_some]
      by_cases hlo : rk h < rk g
      · -- below
        have hn : highG (rk g) m = [] := high_nil fun x hx => by have := hlt x hx; omega
        unfold giveS at hgs
        rw [if_pos hn] at hgs
        simp only [Prod.mk.injEq] at hgs
        obtain ⟨rfl, _, rfl⟩ := hgs
        rw [decide_eq_false (show ¬ rk g < rk h by omega)]
        simp only [Bool.not_false, if_true, Option.bind_some, Bool.false_eq_true, if_false]
        rw [if_pos (show room _ _ by simp only [room, List.length_cons, List.length_nil]; omega)]
        unfold giveS
        have hn2 : highG (rk g) (m ++ [h]) = [] := by rw [high_snoc, hn, if_neg (by omega)]; rfl
        rw [if_pos hn2, mix_snoc_ne he, low_snoc, if_pos hlo]
        rfl
      · -- above
        have hn2 : highG (rk g) (m ++ [h]) = highG (rk g) m ++ [h] := by rw [high_snoc, if_pos (by omega)]
        have hne : highG (rk g) m ++ [h] ≠ [] := by simp
        rw [decide_eq_true (show rk g < rk h by omega)]
        unfold giveS at hgs
        by_cases hn : highG (rk g) m = []
        · rw [if_pos hn] at hgs
          simp only [Prod.mk.injEq] at hgs
          obtain ⟨rfl, _, rfl⟩ := hgs
          simp only [Bool.not_false, if_true, Option.bind_some]
          rw [if_pos (show room _ _ by simp only [room, List.length_cons, List.length_nil]; omega)]
          simp only [Option.bind_some]
          rw [if_pos (show room _ _ by simp only [room, List.length_append, List.length_cons, List.length_nil]; omega)]
          unfold giveS
          rw [hn2, if_neg hne, mix_snoc_ne he, low_snoc, if_neg hlo, hn]
          simp
        · rw [if_neg hn] at hgs
          simp only [Prod.mk.injEq] at hgs
          obtain ⟨rfl, _, rfl⟩ := hgs
          simp only [Bool.not_true, Bool.false_eq_true, if_false, Option.bind_some]
          rw [if_pos (show room _ _ by simp only [room, List.length_append, List.length_cons, List.length_nil]; omega)]
          unfold giveS
          rw [hn2, if_neg hne, mix_snoc_ne he, low_snoc, if_neg hlo]
          simp) (fun p hp => by
    subst hp
    unfold g_right_Give_l0
    simp only
    rw [if_neg natNlt]
    exact ⟨_, rfl, by rw [List.take_length]⟩) (s := (false, g, [])) (by
      unfold giveS mixG lowG highG
      simp)
  exact h1
theorem given_loop {l : List GGrant} (G : GoodG l) {g : GGrant} (hg : InB g) : loopO (g_ref_Given_l0 l) ((0 : Int), g, ([] : List GGrant)) = some (mixG g l, lowG (rk g) l) := by
  have hl := G.len
  obtain ⟨r, h1, rfl⟩ := loopO_times (step := g_ref_Given_l0 l) (σ := GGrant × List GGrant) l.length (fun k p => ((k : Int), p.1, p.2)) (fun k p => p = (mixG g (l.take k), lowG (rk g) (l.take k))) (fun r => r = (mixG g l, lowG (rk g) l)) (fun k p hk hp => by
    subst hp
    have hh := G.inb _ (lrd_mem hk)
    have hms := mix_inb hg (l.take k)
    have hmk : rk (mixG g (l.take k)) = rk g := mix_rk g _
    have hL := low_len (rk g) (l.take k)
    have htk : (l.take k).length = k := by rw [List.length_take]; omega
    refine .inl ⟨(mixG g (l.take (k + 1)), lowG (rk g) (l.take (k + 1))), ?_, rfl⟩
    rw [take_step hk]
    generalize l.take k = m at *
    unfold g_ref_Given_l0
    simp only
    rw [if_pos (natLt hk), if_pos (natIn hk), w64_succ (by omega), Int.toNat_natCast]
    generalize lrd l k = h at *
    rw [rk_eq hh, rk_eq hms, hmk]
    simp only [Option.bind_some]
    by_cases he : rk h = rk g
    · rw [if_neg (show ¬ rk h < rk g by omega), if_pos he, mix_snoc_eq he, low_snoc, if_neg (by omega), List.append_nil]
      simp only [Option.bind_some]
      by_cases ho : h.Option = true
      · rw [if_pos ho, ho, Bool.or_true]
      · rw [if_neg ho, show h.Option = false by simpa using ho, Bool.or_false]
    · rw [if_neg he, mix_snoc_ne he]
      simp only [Option.bind_some, Bool.false_eq_true, if_false]
      by_cases hlo : rk h < rk g
      · rw [if_pos hlo, if_pos (show room _ _ by simp only [room, List.length_cons, List.length_nil]; omega), low_snoc, if_pos hlo]
        rfl
      · rw [if_neg hlo, low_snoc, if_neg hlo, List.append_nil]
        rfl) (fun p hp => by
    subst hp
    unfold g_ref_Given_l0
    simp only
    rw [if_neg natNlt]
    exact ⟨_, rfl, by rw [List.take_length]⟩) (s := (g, [])) (by
      unfold mixG lowG
      simp)
  exact h1
theorem given_loop2 {l : List GGrant} (G : GoodG l) {y : GGrant × List GGrant} (hg : InB y.1) (out0 : List GGrant) (ho : out0.length ≤ 200) : loopO (g_ref_Given_l1 l y) ((0 : Int), out0) = some (out0 ++ highG (rk y.1) l) := by
  have hl := G.len
  have h := loopO_filter (step := g_ref_Given_l1 l y) l (fun k out => ((k : Int), out)) (fun h => decide (rk y.1 < rk h)) id out0 (fun k out hk hout => by
    have hh := G.inb _ (lrd_mem hk)
    unfold g_ref_Given_l1
    simp only
    rw [if_pos (natLt hk), if_pos (natIn hk), w64_succ (by omega), Int.toNat_natCast, rk_eq hh, rk_eq hg]
    simp only [Option.bind_some]
    by_cases e : rk y.1 < rk (lrd l k)
    · rw [if_pos e, if_pos (decide_eq_true e), if_pos (show room _ _ by simp only [room, List.length_cons, List.length_nil]; omega)]
      rfl
    · rw [if_neg e, if_neg (fun q => e (of_decide_eq_true q))]
      rfl) (fun out => by
    unfold g_ref_Given_l1
    simp only
    rw [if_neg natNlt]
    rfl)
  exact h
theorem g_law_RightGives_true {x0 : List GGrant} {x1 : GGrant} (_q0 : (okL 40 GGrant.ok) x0) (_q1 : GGrant.ok x1) : g_law_RightGives x0 x1 = some true := by
  have key : ∃ r : List GGrant × Int, g_right_Give x0 x1 = some r ∧ g_ref_Given x0 x1 = some r ∧ r.1.length ≤ 1000 := by
    obtain ⟨e, h1, h2, h3⟩ := check_eq x0
    unfold g_right_Give g_ref_Given
    rw [h1, h2, bounds_eq, rbounds_eq]
    simp only [Option.bind_some]
    by_cases he : e ≠ 0
    · rw [if_pos he, if_pos he]
      exact ⟨_, rfl, rfl, Nat.zero_le _⟩
    · have G := h3 (Classical.not_not.1 he)
      have hl := G.len
      rw [if_neg he, if_neg he]
      by_cases hb : bndG x1 ≠ 0
      · rw [if_pos hb, if_pos hb]
        exact ⟨_, rfl, rfl, Nat.zero_le _⟩
      · have hg := bndG_zero.1 (Classical.not_not.1 hb)
        rw [if_neg hb, if_neg hb, may_eq G ⟨hg.f0, hg.f1⟩ ⟨hg.o0, hg.o1⟩, reached_eq hl G.inb ⟨hg.f0, hg.f1⟩ ⟨hg.o0, hg.o1⟩, Option.bind_some, Option.bind_some]
        by_cases hr : Rc x0 x1.Object x1.Right x1.From
        · have hd : ∀ i, @decide (Rc x0 x1.Object x1.Right x1.From) i = true := fun i => @decide_eq_true _ i hr
          rw [hd]
          simp only [Bool.not_true, Bool.false_eq_true, if_false]
          rw [give_loop G hg, given_loop G hg]
          simp only [Option.bind_some]
          have hL := low_len (rk x1) x0
          have hH := high_len (rk x1) x0
          have hrm : room ((lowG (rk x1) x0).length + [mixG x1 x0].length) 40 := by simp only [room, List.length_cons, List.length_nil]; omega
          have hg2 := given_loop2 G (y := (mixG x1 x0, lowG (rk x1) x0)) (mix_inb hg x0) (lowG (rk x1) x0 ++ [mixG x1 x0]) (by simp only [List.length_append, List.length_cons, List.length_nil]; omega)
          by_cases hn : highG (rk x1) x0 = []
          · have e : giveS x1 x0 = (false, mixG x1 x0, lowG (rk x1) x0) := if_pos hn
            rw [e]
            simp only [Bool.not_false, if_true]
            rw [if_pos hrm, if_pos hrm, hg2, mix_rk, hn, List.append_nil]
            refine ⟨(lowG (rk x1) x0 ++ [mixG x1 x0], 0), rfl, rfl, ?_⟩
            simp only [List.length_append, List.length_cons, List.length_nil]
            omega
          · have e : giveS x1 x0 = (true, mixG x1 x0, lowG (rk x1) x0 ++ [mixG x1 x0] ++ highG (rk x1) x0) := if_neg hn
            rw [e]
            simp only [Bool.not_true, Bool.false_eq_true, if_false]
            rw [if_pos hrm, hg2, mix_rk]
            refine ⟨_, rfl, rfl, ?_⟩
            simp only [List.length_append, List.length_cons, List.length_nil]
            omega
        · have hd : ∀ i, @decide (Rc x0 x1.Object x1.Right x1.From) i = false := fun i => @decide_eq_false _ i hr
          rw [hd]
          exact ⟨_, rfl, rfl, Nat.zero_le _⟩
  obtain ⟨r, h1, h2, h3⟩ := key
  unfold g_law_RightGives
  rw [h1, h2]
  simp only [Option.bind_some, if_true]
  rw [sameG _ h3]
  rfl
end Go.Proofs.Ytgbfmldbbnhefaa.VM
