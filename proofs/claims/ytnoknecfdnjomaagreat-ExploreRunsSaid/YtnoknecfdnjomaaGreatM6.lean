/-
  A graph of few states: paths, and how far it is from a first state to a bad one. No program in sight.
-/
import Derived.Test.YtnoknecfdnjomaaGreatM5
import Derived.Shelf.Small.Wraps
import Derived.Shelf.Strconv.Itoa0
import Derived.Shelf.Sort.Plain
import Derived.Ground.Names2Prog
import Derived.Shelf.Slices.Clone
import Derived.Shelf.Slices.In.SortNone
import Derived.Ground.SlgnProg
import Derived.Shelf.SlicesE.Clone
import Derived.Test.YtnoknecfdnjomaaGreatProg
import Derived.Shelf.SlIterI.Nil
import Derived.Ground.GgzProg
import Derived.Test.YtnoknecfdnjomaaGreatM2
import Derived.Maps.RangeWalk
import Derived.Test.YtnoknecfdnjomaaGreatM3
import Derived.Test.YtnoknecfdnjomaaGreatM1
set_option linter.unusedVariables false
set_option linter.unusedSimpArgs false
namespace Go.Proofs.YtnoknecfdnjomaaGreat
open Go.RowKit

/-- from s to t in just k steps -/
def PathG (n : Nat) (E : Nat → Nat → Bool) : Nat → Nat → Nat → Prop
  | 0, s, t => s = t
  | k + 1, s, t => ∃ u, u < n ∧ E s u = true ∧ PathG n E k u t
/-- reached in just k steps -/
def exG (n : Nat) (st : Nat → Bool) (E : Nat → Nat → Bool) : Nat → Nat → Bool
  | 0, t => st t
  | k + 1, t => (List.range n).any (fun s => exG n st E k s && E s t)
/-- the least k, at most m, for which something is so; -1: none -/
def leastG (P : Nat → Bool) : Nat → Int
  | 0 => if P 0 = true then 0 else -1
  | m + 1 => if leastG P m ≠ -1 then leastG P m else if P (m + 1) = true then (m : Int) + 1 else -1

theorem leastG_cases {P : Nat → Bool} : ∀ m, (leastG P m = -1 ∧ ∀ k, k ≤ m → P k = false) ∨ (∃ k, k ≤ m ∧ leastG P m = (k : Int) ∧ P k = true ∧ ∀ j, j < k → P j = false)
  | 0 => by
    unfold leastG
    cases h : P 0 with
    | true => exact .inr ⟨0, Nat.le_refl _, by simp, h, fun j hj => absurd hj (Nat.not_lt_zero j)⟩
    | false => exact .inl ⟨by simp, fun k hk => by rw [Nat.le_zero.1 hk]; exact h⟩
  | m + 1 => by
    unfold leastG
    rcases leastG_cases (P := P) m with ⟨h1, h2⟩ | ⟨k, hk, h1, h2, h3⟩
    · rw [if_neg (fun h => h h1)]
      cases h : P (m + 1) with
      | true =>
        refine .inr ⟨m + 1, Nat.le_refl _, ?_, h, fun j hj => h2 j (by omega)⟩
        rw [if_pos rfl]; omega
      | false =>
        refine .inl ⟨by rw [if_neg (by decide)], fun k hk => ?_⟩
        by_cases e : k = m + 1
        · rw [e]; exact h
        · exact h2 k (by omega)
    · rw [if_pos (by omega)]
      exact .inr ⟨k, by omega, h1, h2, h3⟩
theorem leastG_eq {P : Nat → Bool} {m k : Nat} (hk : k ≤ m) (h : P k = true) (hl : ∀ j, j < k → P j = false) : leastG P m = k := by
  rcases leastG_cases (P := P) m with ⟨_, h2⟩ | ⟨i, hi, h1, h2, h3⟩
  · rw [h2 k hk] at h; cases h
  · have : i = k := by
      by_cases e : i < k
      · rw [hl i e] at h2; cases h2
      · by_cases e2 : k < i
        · rw [h3 k e2] at h; cases h
        · omega
    rw [h1, this]
theorem leastG_none {P : Nat → Bool} {m : Nat} (h : ∀ k, k ≤ m → P k = false) : leastG P m = -1 := by
  rcases leastG_cases (P := P) m with ⟨h1, _⟩ | ⟨i, hi, _, h2, _⟩
  · exact h1
  · rw [h i hi] at h2; cases h2

section
variable {n : Nat} {st : Nat → Bool} {E : Nat → Nat → Bool}

theorem PathG.snoc {k s t u : Nat} (ht : t < n) (h : PathG n E k s t) (hu : E t u = true) (hn : u < n) : PathG n E (k + 1) s u := by
  induction k generalizing s with
  | zero =>
    cases h
    exact ⟨u, hn, hu, rfl⟩
  | succ k ih =>
    obtain ⟨v, hv, h1, h2⟩ := h
    exact ⟨v, hv, h1, ih h2⟩
theorem PathG.join {k j s t u : Nat} (h : PathG n E k s t) (h2 : PathG n E j t u) : PathG n E (k + j) s u := by
  induction k generalizing s with
  | zero =>
    cases h
    rw [Nat.zero_add]; exact h2
  | succ k ih =>
    obtain ⟨v, hv, h3, h4⟩ := h
    rw [show k + 1 + j = (k + j) + 1 by omega]
    exact ⟨v, hv, h3, ih h4⟩

/-- reached in just k steps is: at the end of a path -/
theorem exG_path : ∀ {k t : Nat}, t < n → (exG n st E k t = true ↔ ∃ s, s < n ∧ st s = true ∧ PathG n E k s t)
  | 0, t, ht => ⟨fun h => ⟨t, ht, h, rfl⟩, fun ⟨s, _, h, e⟩ => by cases e; exact h⟩
  | k + 1, t, ht => by
    show (List.range n).any (fun s => exG n st E k s && E s t) = true ↔ _
    rw [List.any_eq_true]
    constructor
    · rintro ⟨u, hu, h⟩
      rw [Bool.and_eq_true] at h
      have hun := List.mem_range.1 hu
      obtain ⟨s, hs, h1, h2⟩ := (exG_path hun).1 h.1
      exact ⟨s, hs, h1, h2.snoc hun h.2 ht⟩
    · rintro ⟨s, hs, h1, h2⟩
      -- the last step
      have last : ∀ {k s : Nat}, s < n → PathG n E (k + 1) s t → ∃ u, u < n ∧ PathG n E k s u ∧ E u t = true := by
        intro k
        induction k with
        | zero =>
          rintro s hs ⟨v, hv, h3, h4⟩
          cases h4
          exact ⟨s, hs, rfl, h3⟩
        | succ k ih =>
          rintro s hs ⟨v, hv, h3, h4⟩
          obtain ⟨u, hu, h5, h6⟩ := ih hv h4
          exact ⟨u, hu, ⟨v, hv, h3, h5⟩, h6⟩
      obtain ⟨u, hu, h3, h4⟩ := last hs h2
      exact ⟨u, List.mem_range.2 hu, by rw [Bool.and_eq_true]; exact ⟨(exG_path hu).2 ⟨s, hs, h1, h3⟩, h4⟩⟩
/-- seen is: reached in just so many, or fewer -/
theorem seenG_ex : ∀ {k t : Nat}, seenG n st E k t = true ↔ ∃ j, j ≤ k ∧ exG n st E j t = true
  | 0, t => ⟨fun h => ⟨0, Nat.le_refl _, h⟩, fun ⟨j, hj, h⟩ => by rw [Nat.le_zero.1 hj] at h; exact h⟩
  | k + 1, t => by
    rw [seenG_succ]
    constructor
    · rintro (h | ⟨s, hs, h1, h2⟩)
      · obtain ⟨j, hj, h⟩ := seenG_ex.1 h
        exact ⟨j, by omega, h⟩
      · obtain ⟨j, hj, h⟩ := seenG_ex.1 h1
        refine ⟨j + 1, by omega, ?_⟩
        show (List.range n).any (fun s => exG n st E j s && E s t) = true
        exact List.any_eq_true.2 ⟨s, List.mem_range.2 hs, by rw [Bool.and_eq_true]; exact ⟨h, h2⟩⟩
    · rintro ⟨j, hj, h⟩
      cases j with
      | zero => exact .inl (seenG_ex.2 ⟨0, Nat.zero_le _, h⟩)
      | succ j =>
        obtain ⟨s, hs, h1⟩ := List.any_eq_true.1 (show (List.range n).any (fun s => exG n st E j s && E s t) = true from h)
        rw [Bool.and_eq_true] at h1
        exact .inr ⟨s, List.mem_range.1 hs, seenG_ex.2 ⟨j, by omega, h1.1⟩, h1.2⟩

/-- the graph backwards -/
def revG (E : Nat → Nat → Bool) (s t : Nat) : Bool := E t s
theorem PathG.rev : ∀ {k s t : Nat}, s < n → t < n → (PathG n (revG E) k s t ↔ PathG n E k t s)
  | 0, s, t, _, _ => ⟨fun h => h.symm, fun h => h.symm⟩
  | k + 1, s, t, hs, ht => by
    constructor
    · rintro ⟨u, hu, h1, h2⟩
      exact ((PathG.rev hu ht).1 h2).snoc hu h1 hs
    · intro h
      have last : ∀ {k t : Nat}, t < n → PathG n E (k + 1) t s → ∃ u, u < n ∧ PathG n E k t u ∧ E u s = true := by
        intro k
        induction k with
        | zero =>
          rintro s hs ⟨v, hv, h3, h4⟩
          cases h4
          exact ⟨s, hs, rfl, h3⟩
        | succ k ih =>
          rintro s hs ⟨v, hv, h3, h4⟩
          obtain ⟨u, hu, h5, h6⟩ := ih hv h4
          exact ⟨u, hu, ⟨v, hv, h3, h5⟩, h6⟩
      obtain ⟨u, hu, h1, h2⟩ := last ht h
      exact ⟨u, hu, h2, (PathG.rev hu ht).2 h1⟩

/-- how far it is from s to what is bad: the length of a shortest path -/
theorem distR_path {bad : Nat → Bool} {m s k : Nat} (hs : s < n) (hk : k ≤ m) : distG n bad (revG E) m s = k ↔ (∃ t, t < n ∧ bad t = true ∧ PathG n E k s t) ∧ ∀ j, j < k → ¬ ∃ t, t < n ∧ bad t = true ∧ PathG n E j s t := by
  have ex : ∀ j, exG n bad (revG E) j s = true ↔ ∃ t, t < n ∧ bad t = true ∧ PathG n E j s t := fun j => by
    rw [exG_path hs]
    exact ⟨fun ⟨t, h1, h2, h3⟩ => ⟨t, h1, h2, (PathG.rev h1 hs).1 h3⟩, fun ⟨t, h1, h2, h3⟩ => ⟨t, h1, h2, (PathG.rev h1 hs).2 h3⟩⟩
  have seen : ∀ j, j ≤ m → (seenG n bad (revG E) j s = true ↔ distG n bad (revG E) m s ≠ -1 ∧ distG n bad (revG E) m s ≤ j) := fun j hj => by
    constructor
    · intro h
      rcases distG_cases (n := n) (st := bad) (E := revG E) j s with ⟨q, _⟩ | ⟨_, q1, q2⟩
      · rw [h] at q; cases q
      · rw [distG_le (by omega) hj]
        exact ⟨by omega, q2⟩
    · rintro ⟨h1, h2⟩
      rcases distG_cases (n := n) (st := bad) (E := revG E) m s with ⟨_, q⟩ | ⟨_, q1, q2⟩
      · exact absurd q h1
      · obtain ⟨i, hi⟩ : ∃ i : Nat, distG n bad (revG E) m s = i := ⟨(distG n bad (revG E) m s).toNat, by omega⟩
        have := distG_at hi (by omega)
        have : seenG n bad (revG E) i s = true := by
          rcases distG_cases (n := n) (st := bad) (E := revG E) i s with ⟨_, q3⟩ | ⟨q3, _⟩
          · omega
          · exact q3
        exact seenG_le this (by omega)
  constructor
  · intro h
    have h1 := (seen k hk).2 ⟨by omega, by omega⟩
    obtain ⟨j, hj, h2⟩ := seenG_ex.1 h1
    have hno : ∀ j, j < k → ¬ exG n bad (revG E) j s = true := fun j hj hx => by
      have := (seen j (by omega)).1 (seenG_ex.2 ⟨j, Nat.le_refl _, hx⟩)
      omega
    have hjk : j = k := by
      by_cases e : j < k
      · exact absurd h2 (hno j e)
      · omega
    rw [hjk] at h2
    exact ⟨(ex k).1 h2, fun j hj hx => hno j hj ((ex j).2 hx)⟩
  · rintro ⟨h1, h2⟩
    have h3 := (seen k hk).1 (seenG_ex.2 ⟨k, Nat.le_refl _, (ex k).2 h1⟩)
    rcases distG_cases (n := n) (st := bad) (E := revG E) m s with ⟨_, q⟩ | ⟨_, q1, q2⟩
    · exact absurd q h3.1
    · obtain ⟨i, hi⟩ : ∃ i : Nat, distG n bad (revG E) m s = i := ⟨(distG n bad (revG E) m s).toNat, by omega⟩
      by_cases e : i < k
      · have h4 := (seen i (by omega)).2 ⟨by omega, by omega⟩
        obtain ⟨j, hj, h5⟩ := seenG_ex.1 h4
        exact absurd ((ex j).1 h5) (h2 j (by omega))
      · omega
theorem distR_neg {bad : Nat → Bool} {m s : Nat} (hs : s < n) (h : distG n bad (revG E) m s = -1) : ∀ k, k ≤ m → ¬ ∃ t, t < n ∧ bad t = true ∧ PathG n E k s t := by
  rintro k hk ⟨t, ht, h1, h2⟩
  have h3 := distG_neg.1 h
  have : seenG n bad (revG E) m s = true := seenG_ex.2 ⟨k, hk, (exG_path hs).2 ⟨t, ht, h1, (PathG.rev ht hs).2 h2⟩⟩
  rw [h3] at this; cases this
end

end Go.Proofs.YtnoknecfdnjomaaGreat

/-
  The first state that is nearest to breaking, and when it breaks first. No program in sight.
-/
namespace Go.Proofs.YtnoknecfdnjomaaGreat
open Go.RowKit

/-- a first state that is nearest, among the first k; -1: none breaks -/
def bestG (st : Nat → Bool) (d : Nat → Int) : Nat → Int
  | 0 => -1
  | k + 1 => if st k = true ∧ d k ≠ -1 ∧ (bestG st d k = -1 ∨ d k < d (bestG st d k).toNat) then (k : Int) else bestG st d k
/-- the least sum of two distances, among the first k; -1: none -/
def sumG (r d : Nat → Int) : Nat → Int
  | 0 => -1
  | k + 1 => if 0 ≤ r k ∧ 0 ≤ d k ∧ (sumG r d k < 0 ∨ r k + d k < sumG r d k) then r k + d k else sumG r d k

theorem bestG_cases {st : Nat → Bool} {d : Nat → Int} : ∀ k, (bestG st d k = -1 ∧ ∀ s, s < k → st s = true → d s = -1) ∨ (∃ b, b < k ∧ bestG st d k = (b : Int) ∧ st b = true ∧ d b ≠ -1 ∧ ∀ s, s < k → st s = true → d s ≠ -1 → d b ≤ d s)
  | 0 => .inl ⟨rfl, fun s hs => absurd hs (Nat.not_lt_zero s)⟩
  | k + 1 => by
    unfold bestG
    rcases bestG_cases (st := st) (d := d) k with ⟨h1, h2⟩ | ⟨b, hb, h1, h2, h3, h4⟩
    · by_cases h : st k = true ∧ d k ≠ -1
      · rw [if_pos ⟨h.1, h.2, .inl h1⟩]
        refine .inr ⟨k, Nat.lt_succ_self k, rfl, h.1, h.2, fun s hs h5 h6 => ?_⟩
        by_cases e : s = k
        · rw [e]; exact Int.le_refl _
        · exact absurd (h2 s (by omega) h5) h6
      · rw [if_neg (fun q => h ⟨q.1, q.2.1⟩)]
        refine .inl ⟨h1, fun s hs h5 => ?_⟩
        by_cases e : s = k
        · subst e
          exact Classical.byContradiction fun q => h ⟨h5, q⟩
        · exact h2 s (by omega) h5
    · have hbt : (bestG st d k).toNat = b := by rw [h1]; rfl
      by_cases h : st k = true ∧ d k ≠ -1 ∧ (bestG st d k = -1 ∨ d k < d (bestG st d k).toNat)
      · rw [if_pos h]
        refine .inr ⟨k, Nat.lt_succ_self k, rfl, h.1, h.2.1, fun s hs h5 h6 => ?_⟩
        by_cases e : s = k
        · rw [e]; exact Int.le_refl _
        · have := h4 s (by omega) h5 h6
          rcases h.2.2 with q | q
          · rw [h1] at q; omega
          · rw [hbt] at q; omega
      · rw [if_neg h]
        refine .inr ⟨b, by omega, h1, h2, h3, fun s hs h5 h6 => ?_⟩
        by_cases e : s = k
        · subst e
          apply Classical.byContradiction
          intro q
          exact h ⟨h5, h6, .inr (by rw [hbt]; omega)⟩
        · exact h4 s (by omega) h5 h6
theorem sumG_cases {r d : Nat → Int} : ∀ k, (sumG r d k = -1 ∧ ∀ s, s < k → ¬ (0 ≤ r s ∧ 0 ≤ d s)) ∨ (∃ b, b < k ∧ sumG r d k = r b + d b ∧ 0 ≤ r b ∧ 0 ≤ d b ∧ ∀ s, s < k → 0 ≤ r s → 0 ≤ d s → r b + d b ≤ r s + d s)
  | 0 => .inl ⟨rfl, fun s hs => absurd hs (Nat.not_lt_zero s)⟩
  | k + 1 => by
    unfold sumG
    rcases sumG_cases (r := r) (d := d) k with ⟨h1, h2⟩ | ⟨b, hb, h1, h2, h3, h4⟩
    · by_cases h : 0 ≤ r k ∧ 0 ≤ d k
      · rw [if_pos ⟨h.1, h.2, .inl (by omega)⟩]
        refine .inr ⟨k, Nat.lt_succ_self k, rfl, h.1, h.2, fun s hs h5 h6 => ?_⟩
        by_cases e : s = k
        · rw [e]; exact Int.le_refl _
        · exact absurd ⟨h5, h6⟩ (h2 s (by omega))
      · rw [if_neg (fun q => h ⟨q.1, q.2.1⟩)]
        refine .inl ⟨h1, fun s hs h5 => ?_⟩
        by_cases e : s = k
        · subst e; exact h h5
        · exact h2 s (by omega) h5
    · by_cases h : 0 ≤ r k ∧ 0 ≤ d k ∧ (sumG r d k < 0 ∨ r k + d k < sumG r d k)
      · rw [if_pos h]
        refine .inr ⟨k, Nat.lt_succ_self k, rfl, h.1, h.2.1, fun s hs h5 h6 => ?_⟩
        by_cases e : s = k
        · rw [e]; exact Int.le_refl _
        · have := h4 s (by omega) h5 h6
          rcases h.2.2 with q | q <;> omega
      · rw [if_neg h]
        refine .inr ⟨b, by omega, h1, h2, h3, fun s hs h5 h6 => ?_⟩
        by_cases e : s = k
        · subst e
          apply Classical.byContradiction
          intro q
          exact h ⟨h5, h6, .inr (by omega)⟩
        · exact h4 s (by omega) h5 h6

section
variable {n m : Nat} {st bad : Nat → Bool} {E : Nat → Nat → Bool}

/-- in just k steps from a first state something bad can come -/
def canG (n : Nat) (st bad : Nat → Bool) (E : Nat → Nat → Bool) (k : Nat) : Bool := (List.range n).any (fun t => exG n st E k t && bad t)
theorem canG_path {k : Nat} : canG n st bad E k = true ↔ ∃ s, s < n ∧ st s = true ∧ ∃ t, t < n ∧ bad t = true ∧ PathG n E k s t := by
  unfold canG
  rw [List.any_eq_true]
  constructor
  · rintro ⟨t, ht, h⟩
    rw [Bool.and_eq_true] at h
    have htn := List.mem_range.1 ht
    obtain ⟨s, hs, h1, h2⟩ := (exG_path htn).1 h.1
    exact ⟨s, hs, h1, t, htn, h.2, h2⟩
  · rintro ⟨s, hs, h1, t, ht, h2, h3⟩
    exact ⟨t, List.mem_range.2 ht, by rw [Bool.and_eq_true]; exact ⟨(exG_path ht).2 ⟨s, hs, h1, h3⟩, h2⟩⟩

/-- how far it is, and the first step in which it can break -/
theorem first_least {b : Int} (hb : b = bestG st (distG n bad (revG E) m) n) : (if b = -1 then -1 else distG n bad (revG E) m b.toNat) = leastG (canG n st bad E) m := by
  rcases bestG_cases (st := st) (d := distG n bad (revG E) m) n with ⟨h1, h2⟩ | ⟨c, hc, h1, h2, h3, h4⟩
  · rw [hb, h1, if_pos rfl]
    refine (leastG_none fun k hk => ?_).symm
    rw [← Bool.not_eq_true]
    intro h
    obtain ⟨s, hs, h3, h4⟩ := canG_path.1 h
    exact distR_neg hs (h2 s hs h3) k hk h4
  · rw [hb, h1, if_neg (by omega), show ((c : Int)).toNat = c from rfl]
    rcases distG_cases (n := n) (st := bad) (E := revG E) m c with ⟨_, q⟩ | ⟨_, q1, q2⟩
    · exact absurd q h3
    · obtain ⟨k, hk⟩ : ∃ k : Nat, distG n bad (revG E) m c = k := ⟨(distG n bad (revG E) m c).toNat, by omega⟩
      have hkm : k ≤ m := by omega
      rw [hk]
      refine (leastG_eq hkm ?_ fun j hj => ?_).symm
      · exact canG_path.2 ⟨c, hc, h2, ((distR_path hc hkm).1 hk).1⟩
      · rw [← Bool.not_eq_true]
        intro h
        obtain ⟨s, hs, h5, h6⟩ := canG_path.1 h
        have hne : distG n bad (revG E) m s ≠ -1 := fun q => distR_neg hs q j (by omega) h6
        have h7 := h4 s hs h5 hne
        rcases distG_cases (n := n) (st := bad) (E := revG E) m s with ⟨_, q⟩ | ⟨_, q3, q4⟩
        · exact hne q
        · obtain ⟨i, hi⟩ : ∃ i : Nat, distG n bad (revG E) m s = i := ⟨(distG n bad (revG E) m s).toNat, by omega⟩
          exact ((distR_path hs (by omega)).1 hi).2 j (by omega) h6

/-- .. is the least sum of how far a state is from the first ones, and from what is bad -/
theorem sum_least : sumG (distG n st E m) (distG n bad (revG E) m) n = -1 ∧ leastG (canG n st bad E) m = -1 ∨ sumG (distG n st E m) (distG n bad (revG E) m) n = leastG (canG n st bad E) m ∨ (m : Int) < sumG (distG n st E m) (distG n bad (revG E) m) n ∧ leastG (canG n st bad E) m = -1 := by
  have fwd : ∀ t, t < n → ∀ i : Nat, distG n st E m t = i → ∃ s, s < n ∧ st s = true ∧ PathG n E i s t := fun t ht i hi => by
    have him : i ≤ m := by
      rcases distG_cases (n := n) (st := st) (E := E) m t with ⟨_, q⟩ | ⟨_, _, q⟩ <;> omega
    have h1 := distG_at hi him
    have h2 : seenG n st E i t = true := by
      rcases distG_cases (n := n) (st := st) (E := E) i t with ⟨_, q⟩ | ⟨q, _⟩
      · omega
      · exact q
    obtain ⟨j, hj, h3⟩ := seenG_ex.1 h2
    have hji : j = i := by
      have h4 : seenG n st E j t = true := seenG_ex.2 ⟨j, Nat.le_refl _, h3⟩
      rcases distG_cases (n := n) (st := st) (E := E) j t with ⟨q, _⟩ | ⟨_, q1, q2⟩
      · rw [h4] at q; cases q
      · have := distG_le (m := j) (k := i) (t := t) (n := n) (st := st) (E := E) (by omega) hj
        omega
    rw [hji] at h3
    exact (exG_path ht).1 h3
  rcases sumG_cases (r := distG n st E m) (d := distG n bad (revG E) m) n with ⟨h1, h2⟩ | ⟨t, ht, h1, h2, h3, h4⟩
  · refine .inl ⟨h1, leastG_none fun k hk => ?_⟩
    rw [← Bool.not_eq_true]
    intro h
    obtain ⟨s, hs, h5, h6⟩ := canG_path.1 h
    refine h2 s hs ⟨?_, ?_⟩
    · have : seenG n st E m s = true := seenG_le (k := 0) h5 (Nat.zero_le _)
      rcases distG_cases (n := n) (st := st) (E := E) m s with ⟨q, _⟩ | ⟨_, q, _⟩
      · rw [this] at q; cases q
      · exact q
    · rcases distG_cases (n := n) (st := bad) (E := revG E) m s with ⟨_, q⟩ | ⟨_, q, _⟩
      · exact absurd h6 (distR_neg hs q k hk)
      · exact q
  · obtain ⟨i, hi⟩ : ∃ i : Nat, distG n st E m t = i := ⟨(distG n st E m t).toNat, by omega⟩
    obtain ⟨j, hj⟩ : ∃ j : Nat, distG n bad (revG E) m t = j := ⟨(distG n bad (revG E) m t).toNat, by omega⟩
    have hjm : j ≤ m := by
      rcases distG_cases (n := n) (st := bad) (E := revG E) m t with ⟨_, q⟩ | ⟨_, _, q⟩ <;> omega
    obtain ⟨s, hs, h5, h6⟩ := fwd t ht i hi
    obtain ⟨⟨u, hu, h7, h8⟩, -⟩ := (distR_path ht hjm).1 hj
    have hcan : canG n st bad E (i + j) = true := canG_path.2 ⟨s, hs, h5, u, hu, h7, h6.join h8⟩
    have low : ∀ k, k ≤ m → canG n st bad E k = true → i + j ≤ k := fun k hk h => by
      obtain ⟨s', hs', h9, h10⟩ := canG_path.1 h
      have r0 : distG n st E m s' = 0 := by
        have := distG_le (m := 0) (k := m) (t := s') (n := n) (st := st) (E := E) (by unfold distG; rw [if_pos h9]; omega) (Nat.zero_le _)
        rw [this]; unfold distG; rw [if_pos h9]
      have hne : distG n bad (revG E) m s' ≠ -1 := fun q => distR_neg hs' q k hk h10
      rcases distG_cases (n := n) (st := bad) (E := revG E) m s' with ⟨_, q⟩ | ⟨_, q3, q4⟩
      · exact absurd q hne
      · have h11 := h4 s' hs' (by omega) q3
        obtain ⟨d, hd⟩ : ∃ d : Nat, distG n bad (revG E) m s' = d := ⟨(distG n bad (revG E) m s').toNat, by omega⟩
        have : d ≤ k := by
          apply Classical.byContradiction
          intro q
          exact ((distR_path hs' (by omega)).1 hd).2 k (by omega) h10
        omega
    rw [h1, hi, hj]
    by_cases hm : i + j ≤ m
    · right; left
      have := leastG_eq hm hcan (fun k hk => by
        rw [← Bool.not_eq_true]
        intro h
        have := low k (by omega) h
        omega)
      rw [this]; omega
    · right; right
      refine ⟨by omega, leastG_none fun k hk => ?_⟩
      rw [← Bool.not_eq_true]
      intro h
      have := low k hk h
      omega
end

end Go.Proofs.YtnoknecfdnjomaaGreat

/-
  explore: States, is, Reached, Distance, begin, First.
-/
namespace Go.Proofs.YtnoknecfdnjomaaGreat
open Go.RowKit

section
variable {sp g n cg : Nat} {w : World} {mb : Nat → Nat} {F : Nat → Int → Option Int} {BD R D : Nat → Int}

set_option maxRecDepth 100000 in
theorem ex_States (hs1 : w.cell? ⟨sp, 1, none⟩ = some (.slice (some ⟨g, 0, none⟩) n cg)) :
    Calls Tryz.prog 14 #[.pointer (some ⟨sp, 0, none⟩)] w fun e w' => e = .returned (.int .i64 (n : Int)) ∧ w = w' := by
  go_enter Tryz.func14, Tryz.ntmps14
  go_wp2_with fail
  go_ret
  exact ⟨rfl, rfl⟩
set_option maxRecDepth 100000 in
theorem ex_is (hs1 : w.cell? ⟨sp, 1, none⟩ = some (.slice (some ⟨g, 0, none⟩) n cg)) (t : Int) :
    Calls Tryz.prog 48 #[.pointer (some ⟨sp, 0, none⟩), .int .i64 t] w fun e w' => e = .returned (.bool (decide (0 ≤ t ∧ t < (n : Int)))) ∧ w = w' := by
  by_cases h0 : 0 ≤ t
  · have q0 : t ≥ 0 := h0
    have e : decide (0 ≤ t ∧ t < (n : Int)) = decide (t < (n : Int)) := by simp [h0]
    rw [e]
    clear e
    go_enter Tryz.func48, Tryz.ntmps48
    go_wp2_with fail
    go_ret
    exact ⟨rfl, rfl⟩
  · have q0 : ¬ t ≥ 0 := h0
    have e : decide (0 ≤ t ∧ t < (n : Int)) = false := by simp [h0]
    rw [e]
    clear e
    go_enter Tryz.func48, Tryz.ntmps48
    go_wp2_with fail
    go_ret
    exact ⟨rfl, rfl⟩
/-- a number of a state, -1 of what is none -/
def atS (n : Nat) (R : Nat → Int) (t : Int) : Int := if 0 ≤ t ∧ t < (n : Int) then R t.toNat else -1
theorem atS_in {n : Nat} {R : Nat → Int} {t : Nat} (h : t < n) : atS n R (t : Int) = R t := by unfold atS; rw [if_pos ⟨by omega, by omega⟩]; rfl
theorem atS_out {n : Nat} {R : Nat → Int} {t : Int} (h : ¬ (0 ≤ t ∧ t < (n : Int))) : atS n R t = -1 := by unfold atS; rw [if_neg h]

set_option maxRecDepth 100000 in
theorem ex_Reached (hs1 : w.cell? ⟨sp, 1, none⟩ = some (.slice (some ⟨g, 0, none⟩) n cg)) (hR : RowsS w g n mb F BD R D) (t : Int) :
    Calls Tryz.prog 17 #[.pointer (some ⟨sp, 0, none⟩), .int .i64 t] w fun e w' => e = .returned (.int .i64 (atS n R t)) ∧ w = w' := by
  have HIs := Lib.hid (ex_is hs1 t)
  by_cases h : 0 ≤ t ∧ t < (n : Int)
  · obtain ⟨v, rfl⟩ : ∃ v : Nat, t = (v : Int) := ⟨t.toNat, by omega⟩
    have hv : v < n := by omega
    rw [atS_in hv]
    rw [decide_eq_true h] at HIs
    have c2 := hR.cell2 hv
    obtain ⟨v0, v1⟩ := h
    clear hR
    go_enter Tryz.func17, Tryz.ntmps17
    go_wp2_with (go_at_call 48; refine Calls.mono HIs.out ?_; rintro e w2 ⟨rfl, rfl⟩)
    go_ret
    exact ⟨rfl, rfl⟩
  · rw [atS_out h]
    rw [decide_eq_false h] at HIs
    clear hR
    go_enter Tryz.func17, Tryz.ntmps17
    go_wp2_with (go_at_call 48; refine Calls.mono HIs.out ?_; rintro e w2 ⟨rfl, rfl⟩)
    go_ret
    exact ⟨rfl, rfl⟩
set_option maxRecDepth 100000 in
theorem ex_Distance (hs1 : w.cell? ⟨sp, 1, none⟩ = some (.slice (some ⟨g, 0, none⟩) n cg)) (hR : RowsS w g n mb F BD R D) (t : Int) :
    Calls Tryz.prog 18 #[.pointer (some ⟨sp, 0, none⟩), .int .i64 t] w fun e w' => e = .returned (.int .i64 (atS n D t)) ∧ w = w' := by
  have HIs := Lib.hid (ex_is hs1 t)
  by_cases h : 0 ≤ t ∧ t < (n : Int)
  · obtain ⟨v, rfl⟩ : ∃ v : Nat, t = (v : Int) := ⟨t.toNat, by omega⟩
    have hv : v < n := by omega
    rw [atS_in hv]
    rw [decide_eq_true h] at HIs
    have c2 := hR.cell3 hv
    obtain ⟨v0, v1⟩ := h
    clear hR
    go_enter Tryz.func18, Tryz.ntmps18
    go_wp2_with (go_at_call 48; refine Calls.mono HIs.out ?_; rintro e w2 ⟨rfl, rfl⟩)
    go_ret
    exact ⟨rfl, rfl⟩
  · rw [atS_out h]
    rw [decide_eq_false h] at HIs
    clear hR
    go_enter Tryz.func18, Tryz.ntmps18
    go_wp2_with (go_at_call 48; refine Calls.mono HIs.out ?_; rintro e w2 ⟨rfl, rfl⟩)
    go_ret
    exact ⟨rfl, rfl⟩
/-- begin's answer -/
def beg (n : Nat) (R D : Nat → Int) : Int := bestG (fun t => decide (R t = 0)) D n

set_option maxRecDepth 100000 in
set_option maxHeartbeats 4000000 in
theorem ex_begin (hs1 : w.cell? ⟨sp, 1, none⟩ = some (.slice (some ⟨g, 0, none⟩) n cg)) (hR : RowsS w g n mb F BD R D) (hn9 : n ≤ 1024) :
    Calls Tryz.prog 47 #[.pointer (some ⟨sp, 0, none⟩)] w fun e w' => e = .returned (.int .i64 (beg n R D)) ∧ Kp (fun _ => False) w w' := by
  have HSt := Lib.hid (fun (u : World) (hu : Kp (fun _ => False) w u) => ex_States (hu.cellAt2 hs1))
  have HSc := Lib.hid (fun (u : World) (hu : Kp (fun _ => False) w u) => hu.cellAt2 hs1)
  have HR := Lib.hid hR
  obtain ⟨bg, hbg⟩ : ∃ bg : Nat → Int, bestG (fun t => decide (R t = 0)) D = bg := ⟨_, rfl⟩
  have HBc := Lib.hid (fun k => hbg ▸ bestG_cases (st := fun t => decide (R t = 0)) (d := D) k)
  have HB0 := Lib.hid (show bg 0 = -1 from hbg ▸ rfl)
  have HBs := Lib.hid (fun k => show bg (k + 1) = if R k = 0 ∧ D k ≠ -1 ∧ (bg k = -1 ∨ D k < D (bg k).toNat) then (k : Int) else bg k by
    rw [← hbg]
    show (if decide (R k = 0) = true ∧ _ then _ else _) = _
    simp only [decide_eq_true_eq])
  have he : beg n R D = bg n := by unfold beg; rw [hbg]
  rw [he]
  have HSw := Lib.hid (HSt.out w (Kp.refl _ _))
  clear hs1 hR hbg he HSt
  go_enter Tryz.func47, Tryz.ntmps47
  go_wp2_with (go_at_call 14; refine Calls.mono HSw.out ?_; rintro e w2 ⟨rfl, rfl⟩)
  go_loopw [3, 4, 7] (fun v3 v4 v7 wr => ∃ k : Nat, v7 = .int .i64 (k : Int) ∧ k ≤ n ∧ v3 = .int .i64 (bg k) ∧ Kp (fun _ => False) w wr) (fun _ _ v7 _ => n - (intOf v7).toNat)
  case atStart => exact ⟨0, rfl, Nat.zero_le _, by rw [HB0.out], Kp.refl _ _⟩
  case round =>
    obtain ⟨k, rfl, hk, rfl, hK⟩ := hrel
    have HK := Lib.hid hK
    have c1 := HSc.out wr hK
    have HRw := Lib.hid (HR.out.kp hK)
    clear hK
    by_cases hlt : k < n
    · have k0 : (0 : Int) ≤ (k : Int) := by omega
      have k1 : (k : Int) < (n : Int) := by omega
      have b2 := HRw.out.cell2 hlt
      have b3 := HRw.out.cell3 hlt
      have hs := HBs.out k
      have hc := HBc.out k
      obtain ⟨B, hB⟩ : ∃ B, bg k = B := ⟨_, rfl⟩
      rw [hB] at hs hc ⊢
      clear hB
      obtain ⟨rk, hrk⟩ : ∃ x, R k = x := ⟨_, rfl⟩
      obtain ⟨dk, hdk⟩ : ∃ x, D k = x := ⟨_, rfl⟩
      rw [hrk] at b2 hs
      rw [hdk] at b3 hs
      clear hrk hdk
      by_cases h1 : rk = 0
      · by_cases h2 : dk = -1
        · have HE := Lib.hid (show bg (k + 1) = B by rw [hs, if_neg (fun q => q.2.1 h2)])
          subst h1 h2
          clear hs hc
          go_wp2_with fail
          go_roundw
          case rel => exact ⟨k + 1, by go_num, by omega, by rw [HE.out], HK.out⟩
          case measure => simp [intOf]; omega
        · by_cases h3 : B = -1
          · have HE := Lib.hid (show bg (k + 1) = (k : Int) by rw [hs, if_pos ⟨h1, h2, .inl h3⟩])
            subst h1 h3
            clear hs hc
            go_upto_region 6 with fail
            go_quiet (fail)
            go_wp2_with fail
            go_roundw
            case rel => exact ⟨k + 1, by go_num, by omega, by rw [HE.out], by first | exact HK.out | exact HK.out.drewN _⟩
            case measure => simp [intOf]; omega
          · obtain ⟨b, hb, hbe⟩ : ∃ b : Nat, b < n ∧ B = (b : Int) := by
              rcases hc with ⟨q, -⟩ | ⟨b, q1, q2, -⟩
              · exact absurd q h3
              · exact ⟨b, by omega, q2⟩
            subst hbe
            have b0 : (0 : Int) ≤ (b : Int) := by omega
            have b1 : (b : Int) < (n : Int) := by omega
            have c3 := HRw.out.cell3 hb
            rw [Int.toNat_natCast] at hs
            obtain ⟨db, hdb⟩ : ∃ x, D b = x := ⟨_, rfl⟩
            rw [hdb] at c3 hs
            clear hdb
            by_cases h4 : dk < db
            · have HE := Lib.hid (show bg (k + 1) = (k : Int) by rw [hs, if_pos ⟨h1, h2, .inr h4⟩])
              subst h1
              clear hs hc
              go_upto_region 6 with fail
              go_quiet (fail)
              go_wp2_with fail
              go_roundw
              case rel => exact ⟨k + 1, by go_num, by omega, by rw [HE.out], by first | exact HK.out | exact HK.out.drewN _⟩
              case measure => simp [intOf]; omega
            · have HE := Lib.hid (show bg (k + 1) = (b : Int) by rw [hs, if_neg (fun q => by rcases q.2.2 with q | q <;> omega)])
              subst h1
              clear hs hc
              go_upto_region 6 with fail
              go_quiet (fail)
              go_wp2_with fail
              go_roundw
              case rel => exact ⟨k + 1, by go_num, by omega, by rw [HE.out], by first | exact HK.out | exact HK.out.drewN _⟩
              case measure => simp [intOf]; omega
      · have HE := Lib.hid (show bg (k + 1) = B by rw [hs, if_neg (fun q => h1 q.1)])
        clear hs hc
        go_wp2_with fail
        go_roundw
        case rel => exact ⟨k + 1, by go_num, by omega, by rw [HE.out], HK.out⟩
        case measure => simp [intOf]; omega
    · obtain rfl : k = n := by omega
      go_wp2_with fail
      go_ret
      exact ⟨rfl, HK.out⟩

set_option maxRecDepth 100000 in
theorem ex_First (hs1 : w.cell? ⟨sp, 1, none⟩ = some (.slice (some ⟨g, 0, none⟩) n cg)) (hR : RowsS w g n mb F BD R D) (hn9 : n ≤ 1024) :
    Calls Tryz.prog 15 #[.pointer (some ⟨sp, 0, none⟩)] w fun e w' => e = .returned (.int .i64 (atS n D (beg n R D))) ∧ Kp (fun _ => False) w w' := by
  have HB := Lib.hid (ex_begin hs1 hR hn9)
  have HD := Lib.hid (fun u (hu : Kp (fun _ => False) w u) => ex_Distance (hu.cellAt2 hs1) (hR.kp hu) (beg n R D))
  clear hs1 hR
  go_enter Tryz.func15, Tryz.ntmps15
  go_wp2_with (first
    | (go_at_call 47; refine Calls.mono HB.out ?_; rintro e w2 ⟨rfl, hK⟩; have HK := Lib.hid hK; have HD2 := Lib.hid (HD.out w2 hK); clear hK)
    | (go_at_call 18; refine Calls.mono HD2.out ?_; rintro e w3 ⟨rfl, rfl⟩))
  go_ret
  exact ⟨rfl, HK.out⟩
end

end Go.Proofs.YtnoknecfdnjomaaGreat

/-
  The run that is told: from state to state, each nearer to what is bad. No program in sight.
-/
namespace Go.Proofs.YtnoknecfdnjomaaGreat
open Go.RowKit

/-- the numbers below n that are keys, rising -/
def stepN (n : Nat) (F : Int → Option Int) : List Nat := (List.range n).filter (fun v => (F ((v : Nat) : Int)).isSome)
def stepL (n : Nat) (F : Int → Option Int) : List Int := (stepN n F).map (fun v => ((v : Nat) : Int))
theorem stepL_lt {n : Nat} {F : Int → Option Int} : (stepL n F).Pairwise (· < ·) := by
  unfold stepL stepN
  exact List.Pairwise.map _ (fun a b h => by omega) ((List.pairwise_lt_range).filter _)
theorem stepN_mem {n : Nat} {F : Int → Option Int} {v : Nat} : v ∈ stepN n F ↔ v < n ∧ (F (v : Int)).isSome = true := by
  unfold stepN; rw [List.mem_filter, List.mem_range]
theorem stepN_len {n : Nat} {F : Int → Option Int} : (stepN n F).length ≤ n := by
  unfold stepN
  have := List.length_filter_le (fun v => (F ((v : Nat) : Int)).isSome) (List.range n)
  rw [List.length_range] at this
  exact this

/-- the first state behind s that is one nearer -/
def hopG (n : Nat) (F : Nat → Int → Option Int) (D : Nat → Int) (s : Nat) : Nat := ((stepN n (F s)).find? (fun t => decide (D t = D s - 1))).getD 0
def chainG (n : Nat) (F : Nat → Int → Option Int) (D : Nat → Int) (s : Nat) : Nat → Nat
  | 0 => s
  | k + 1 => hopG n F D (chainG n F D s k)
/-- the input of step k, of d + 1 -/
def inpG (n : Nat) (F : Nat → Int → Option Int) (BD D : Nat → Int) (s d k : Nat) : Int :=
  if k < d then (F (chainG n F D s k) ((chainG n F D s (k + 1) : Nat) : Int)).getD 0 else BD (chainG n F D s k)

section
variable {n m : Nat} {bad : Nat → Bool} {F : Nat → Int → Option Int} {D : Nat → Int}

/-- what distances tell of the states behind -/
structure NearG (n : Nat) (F : Nat → Int → Option Int) (bad : Nat → Bool) (D : Nat → Int) : Prop where
  low : ∀ s, s < n → -1 ≤ D s
  zero : ∀ s, s < n → D s = 0 → bad s = true
  one : ∀ s, s < n → ∀ k : Nat, D s = (k : Int) + 1 → ∃ t, t < n ∧ (F s (t : Int)).isSome = true ∧ D t = k

theorem near_dist : NearG n F bad (distG n bad (revG (fun s t => (F s (t : Int)).isSome)) m) := by
  refine ⟨fun s hs => ?_, fun s hs h => ?_, fun s hs k h => ?_⟩
  · rcases distG_cases (n := n) (st := bad) (E := revG (fun s t => (F s (t : Int)).isSome)) m s with ⟨_, q⟩ | ⟨_, q, _⟩ <;> omega
  · obtain ⟨⟨t, ht, h1, h2⟩, -⟩ := (distR_path hs (Nat.zero_le m)).1 (show distG n bad (revG (fun s t => (F s (t : Int)).isSome)) m s = ((0 : Nat) : Int) from h)
    have : s = t := h2
    rw [this]; exact h1
  · have hkm : k + 1 ≤ m := by
      rcases distG_cases (n := n) (st := bad) (E := revG (fun s t => (F s (t : Int)).isSome)) m s with ⟨_, q⟩ | ⟨_, _, q⟩ <;> omega
    obtain ⟨⟨t, ht, h1, u, hu, h2, h3⟩, h4⟩ := (distR_path hs hkm).1 (show distG n bad (revG (fun s t => (F s (t : Int)).isSome)) m s = ((k + 1 : Nat) : Int) from h)
    refine ⟨u, hu, h2, (distR_path hu (by omega)).2 ⟨⟨t, ht, h1, h3⟩, fun j hj h5 => ?_⟩⟩
    obtain ⟨t', ht', h6, h7⟩ := h5
    exact h4 (j + 1) (by omega) ⟨t', ht', h6, u, hu, h2, h7⟩

theorem find_at {p : Nat → Bool} {l : List Nat} {i t : Nat} (hi : l[i]? = some t) (hp : p t = true) (hl : ∀ j, j < i → ∀ u, l[j]? = some u → p u = false) : l.find? p = some t := by
  induction l generalizing i with
  | nil => cases hi
  | cons x l ih =>
    cases i with
    | zero =>
      cases hi
      rw [List.find?_cons_of_pos hp]
    | succ i =>
      have hx : p x = false := hl 0 (Nat.zero_lt_succ _) x rfl
      rw [List.find?_cons_of_neg (by rw [hx]; decide)]
      exact ih hi (fun j hj u hu => hl (j + 1) (by omega) u hu)
theorem hop_found {s i t : Nat} (hi : (stepN n (F s))[i]? = some t) (hp : D t = D s - 1) (hl : ∀ j, j < i → ∀ u, (stepN n (F s))[j]? = some u → D u ≠ D s - 1) : hopG n F D s = t := by
  unfold hopG
  rw [find_at hi (decide_eq_true hp) (fun j hj u hu => decide_eq_false (hl j hj u hu))]
  rfl
theorem NearG.hop (h : NearG n F bad D) {s k : Nat} (hs : s < n) (hd : D s = (k : Int) + 1) : hopG n F D s < n ∧ (F s (hopG n F D s : Int)).isSome = true ∧ D (hopG n F D s) = k := by
  obtain ⟨t, ht, h1, h2⟩ := h.one s hs k hd
  unfold hopG
  cases e : (stepN n (F s)).find? (fun t => decide (D t = D s - 1)) with
  | none =>
    have := List.find?_eq_none.1 e t (stepN_mem.2 ⟨ht, h1⟩)
    simp only [decide_eq_true_eq] at this
    omega
  | some u =>
    have h3 := List.find?_some e
    have h4 := stepN_mem.1 (List.mem_of_find?_eq_some e)
    simp only [decide_eq_true_eq] at h3
    exact ⟨h4.1, h4.2, by show D u = k; omega⟩
theorem NearG.chain (h : NearG n F bad D) {s d : Nat} (hs : s < n) (hd : D s = d) : ∀ k, k ≤ d → chainG n F D s k < n ∧ D (chainG n F D s k) = (d : Int) - k
  | 0, _ => ⟨hs, by show D s = _; rw [hd]; omega⟩
  | k + 1, hk => by
    obtain ⟨h1, h2⟩ := h.chain hs hd k (by omega)
    obtain ⟨j, hj⟩ : ∃ j : Nat, d - k = j + 1 := ⟨d - k - 1, by omega⟩
    have := h.hop h1 (k := j) (by omega)
    refine ⟨this.1, ?_⟩
    show D (hopG n F D (chainG n F D s k)) = _
    rw [this.2.2]; omega
theorem NearG.edge (h : NearG n F bad D) {s d k : Nat} (hs : s < n) (hd : D s = d) (hk : k < d) : (F (chainG n F D s k) (chainG n F D s (k + 1) : Int)).isSome = true := by
  obtain ⟨h1, h2⟩ := h.chain hs hd k (by omega)
  obtain ⟨j, hj⟩ : ∃ j : Nat, d - k = j + 1 := ⟨d - k - 1, by omega⟩
  exact (h.hop h1 (k := j) (by omega)).2.1
end

end Go.Proofs.YtnoknecfdnjomaaGreat

/-
  The library's contracts at this dump, as the kit's own tool lays them.
-/
namespace Go.Proofs
open Go.Shelf
def Tryz.lays189_ren : Go.Shelf.Ren := ⟨fun | 189 => 68 | 125 => 91 | 257 => 90 | 128 => 107 | 129 => 108 | 294 => 98 | 295 => 99 | 296 => 100 | 297 => 101 | 298 => 102 | 299 => 103 | 216 => 104 | 300 => 105 | 301 => 106 | 328 => 117 | 329 => 118 | 330 => 119 | 331 => 120 | 332 => 121 | 215 => 122 | 343 => 125 | n => n, fun | 28 => 22 | 3 => 3 | 46 => 126 | 0 => 0 | 51 => 140 | 53 => 142 | 4 => 4 | 183 => 133 | 182 => 132 | 131 => 100 | 5 => 5 | 9 => 9 | 218 => 152 | 222 => 156 | 228 => 159 | 229 => 160 | n => n, fun | n => n⟩
theorem Tryz.lays189 : Go.Proofs.Lays.n189 Tryz.prog Tryz.lays189_ren := {
  mixed := by kernel_rfl
  f125 := Tryz.func91.trans (congrArg some (by kernel_rfl))
  f128 := Tryz.func107.trans (congrArg some (by kernel_rfl))
  f129 := Tryz.func108.trans (congrArg some (by kernel_rfl))
  f189 := Tryz.func68.trans (congrArg some (by kernel_rfl))
  f215 := Tryz.func122.trans (congrArg some (by kernel_rfl))
  f216 := Tryz.func104.trans (congrArg some (by kernel_rfl))
  f257 := Tryz.func90.trans (congrArg some (by kernel_rfl))
  f294 := Tryz.func98.trans (congrArg some (by kernel_rfl))
  f295 := Tryz.func99.trans (congrArg some (by kernel_rfl))
  f296 := Tryz.func100.trans (congrArg some (by kernel_rfl))
  f297 := Tryz.func101.trans (congrArg some (by kernel_rfl))
  f298 := Tryz.func102.trans (congrArg some (by kernel_rfl))
  f299 := Tryz.func103.trans (congrArg some (by kernel_rfl))
  f300 := Tryz.func105.trans (congrArg some (by kernel_rfl))
  f301 := Tryz.func106.trans (congrArg some (by kernel_rfl))
  f328 := Tryz.func117.trans (congrArg some (by kernel_rfl))
  f329 := Tryz.func118.trans (congrArg some (by kernel_rfl))
  f330 := Tryz.func119.trans (congrArg some (by kernel_rfl))
  f331 := Tryz.func120.trans (congrArg some (by kernel_rfl))
  f332 := Tryz.func121.trans (congrArg some (by kernel_rfl))
  f343 := Tryz.func125.trans (congrArg some (by kernel_rfl))
  t0 := Tryz.underlying0
  a0 := Tryz.isAgg0
  z0 := Tryz.sizeOf0
  v0 := Tryz.zeroValue0
  t3 := Tryz.underlying3
  a3 := Tryz.isAgg3
  z3 := Tryz.sizeOf3
  v3 := Tryz.zeroValue3
  t4 := Tryz.underlying4
  a4 := Tryz.isAgg4
  z4 := Tryz.sizeOf4
  v4 := Tryz.zeroValue4
  t5 := Tryz.underlying5
  a5 := Tryz.isAgg5
  z5 := Tryz.sizeOf5
  v5 := Tryz.zeroValue5
  t9 := Tryz.underlying9
  a9 := Tryz.isAgg9
  z9 := Tryz.sizeOf9
  v9 := Tryz.zeroValue9
  t28 := Tryz.underlying22
  a28 := Tryz.isAgg22
  z28 := Tryz.sizeOf22
  v28 := Tryz.zeroValue22
  t46 := Tryz.underlying126
  a46 := Tryz.isAgg126
  z46 := Tryz.sizeOf126
  v46 := Tryz.zeroValue126
  t51 := Tryz.underlying140
  a51 := Tryz.isAgg140
  z51 := Tryz.sizeOf140
  v51 := Tryz.zeroValue140
  t53 := Tryz.underlying142
  a53 := Tryz.isAgg142
  z53 := Tryz.sizeOf142
  v53 := Tryz.zeroValue142
  t131 := Tryz.underlying100
  a131 := Tryz.isAgg100
  z131 := Tryz.sizeOf100
  v131 := Tryz.zeroValue100
  t182 := Tryz.underlying132
  a182 := Tryz.isAgg132
  z182 := Tryz.sizeOf132
  v182 := Tryz.zeroValue132
  t183 := Tryz.underlying133
  a183 := Tryz.isAgg133
  z183 := Tryz.sizeOf133
  v183 := Tryz.zeroValue133
  t218 := Tryz.underlying152
  a218 := Tryz.isAgg152
  z218 := Tryz.sizeOf152
  v218 := Tryz.zeroValue152
  t222 := Tryz.underlying156
  a222 := Tryz.isAgg156
  z222 := Tryz.sizeOf156
  v222 := Tryz.zeroValue156
  t228 := Tryz.underlying159
  a228 := Tryz.isAgg159
  z228 := Tryz.sizeOf159
  v228 := Tryz.zeroValue159
  t229 := Tryz.underlying160
  a229 := Tryz.isAgg160
  z229 := Tryz.sizeOf160
  v229 := Tryz.zeroValue160 }
open Go.Sort Go.RowKit in
theorem Tryz.slices_Sort_int (blk off cap : Nat) (zs : List Int) (w : World) (hH : Holds (Value.int .i64) w blk off zs.toArray) (hblk : blk < w.heap.size) (hsz : zs.length < 4611686018427387904) :
    Calls Tryz.prog 68 #[.slice (some ⟨blk, off, none⟩) zs.length cap] w fun e w' =>
      e = .returned (.tuple #[]) ∧ ∃ n os, w' = grow (putRow (Value.int .i64) (Sort.ahead w n) blk off (zs.mergeSort fun x y => decide (x ≤ y)).toArray) os := Any.slices_Sort_int Tryz.lays189 blk off cap zs w hH hblk hsz
open Go.RowKit Go.Sort in
theorem Tryz.slices_Sort_int_none (p : Option Addr) (cap : Nat) (w : World) :
    Calls Tryz.prog 68 #[.slice p 0 cap] w fun e w' => e = .returned (.tuple #[]) ∧ w' = w := Any.slices_Sort_int_none Tryz.lays189 p cap w
end Go.Proofs

/-
  The library's contracts at this dump, as the kit's own tool lays them: maps.Keys, slices.Sorted.
-/
namespace Go.Proofs
open Go.Shelf
def Tryz.keysA_ren : Go.Shelf.Ren := ⟨fun | 7 => 50 | 10 => 69 | n => n, fun | 23 => 73 | 26 => 3 | 3 => 3 | 28 => 90 | 0 => 0 | 27 => 89 | 33 => 87 | 4 => 4 | n => n, fun | n => n⟩
theorem Tryz.keysA : Go.Proofs.SlLaysZI.n7 Tryz.prog Tryz.keysA_ren := {
  mixed := by kernel_rfl
  f7 := ⟨Tryz.f50.name, by decide, Tryz.func50.trans (congrArg some (by kernel_rfl))⟩
  f10 := ⟨Tryz.f69.name, by decide, Tryz.func69.trans (congrArg some (by kernel_rfl))⟩
  t0 := Tryz.underlying0
  a0 := Tryz.isAgg0
  z0 := Tryz.sizeOf0
  v0 := Tryz.zeroValue0
  t4 := Tryz.underlying4
  a4 := Tryz.isAgg4
  z4 := Tryz.sizeOf4
  v4 := Tryz.zeroValue4
  t23 := Tryz.underlying73
  a23 := Tryz.isAgg73
  z23 := Tryz.sizeOf73
  v23 := Tryz.zeroValue73
  t26 := Tryz.underlying3
  a26 := Tryz.isAgg3
  z26 := Tryz.sizeOf3
  v26 := Tryz.zeroValue3
  t27 := Tryz.underlying89
  a27 := Tryz.isAgg89
  z27 := Tryz.sizeOf89
  v27 := Tryz.zeroValue89
  t28 := Tryz.underlying90
  a28 := Tryz.isAgg90
  z28 := Tryz.sizeOf90
  v28 := Tryz.zeroValue90
  t33 := Tryz.underlying87
  a33 := Tryz.isAgg87
  z33 := Tryz.sizeOf87
  v33 := Tryz.zeroValue87 }
def Tryz.sortedA_ren : Go.Shelf.Ren := ⟨fun | 6 => 49 | 8 => 67 | 9 => 68 | 11 => 89 | 13 => 91 | 12 => 90 | 23 => 107 | 24 => 108 | 14 => 98 | 15 => 99 | 16 => 100 | 17 => 101 | 18 => 102 | 19 => 103 | 20 => 104 | 21 => 105 | 22 => 106 | 25 => 117 | 26 => 118 | 27 => 119 | 28 => 120 | 29 => 121 | 30 => 122 | 31 => 125 | n => n, fun | 26 => 3 | 28 => 90 | 24 => 22 | 0 => 0 | 3 => 3 | 37 => 126 | 48 => 140 | 50 => 142 | 4 => 4 | 40 => 133 | 39 => 132 | 45 => 100 | 5 => 5 | 9 => 9 | 51 => 152 | 55 => 156 | 57 => 159 | 58 => 160 | 33 => 87 | n => n, fun | n => n⟩
theorem Tryz.sortedA : Go.Proofs.SlLaysZI.n6 Tryz.prog Tryz.sortedA_ren := {
  mixed := by kernel_rfl
  f6 := ⟨Tryz.f49.name, by decide, Tryz.func49.trans (congrArg some (by kernel_rfl))⟩
  f8 := ⟨Tryz.f67.name, by decide, Tryz.func67.trans (congrArg some (by kernel_rfl))⟩
  f11 := ⟨Tryz.f89.name, by decide, Tryz.func89.trans (congrArg some (by kernel_rfl))⟩
  t0 := Tryz.underlying0
  a0 := Tryz.isAgg0
  z0 := Tryz.sizeOf0
  v0 := Tryz.zeroValue0
  t24 := Tryz.underlying22
  a24 := Tryz.isAgg22
  z24 := Tryz.sizeOf22
  v24 := Tryz.zeroValue22
  t26 := Tryz.underlying3
  a26 := Tryz.isAgg3
  z26 := Tryz.sizeOf3
  v26 := Tryz.zeroValue3
  t28 := Tryz.underlying90
  a28 := Tryz.isAgg90
  z28 := Tryz.sizeOf90
  v28 := Tryz.zeroValue90
  i26 := by kernel_rfl }
end Go.Proofs

/-
  explore.Step: the states behind one, rising.
-/
namespace Go.Proofs.YtnoknecfdnjomaaGreat
open Go.RowKit Go.Maps Go.Sort Go.Shelf

theorem has_ok {w : World} {b q : Nat} {D : DataW Unit} (hown : w.ownsMap Tryz.prog 3 (plainElem Tryz.prog 3) b q D) {x : Int} (h : Maps.has D (.int .i64 x) = true) : okInt x := by
  obtain ⟨es, hD, hko⟩ := hown.keysOf
  subst hD
  have h' := h
  rw [has_eq, List.any_eq_true] at h'
  obtain ⟨p, hp, hs⟩ := h'
  have hwf := intKeys_wf hown Tryz.underlying3 (Go.intOf p.1) (List.mem_map.2 ⟨p, hp, rfl⟩)
  obtain ⟨v, hv⟩ := hko p hp
  obtain ⟨y, _, hy, hl⟩ := Maps.keyOf_i64 Tryz.underlying3 hv
  rw [hy] at hs
  have : y = x := by simpa [Lit.sameKey] using hs
  subst this
  simp [Lit.wf, IntKind.min, IntKind.max, IntKind.signed, IntKind.bits] at hl
  unfold okInt; omega

theorem keys_sorted {w : World} {b q n : Nat} {F : Int → Option Int} {D : DataW Unit} (hown : w.ownsMap Tryz.prog 3 (plainElem Tryz.prog 3) b q D) (h2 : ∀ x, okInt x → Maps.has D (.int .i64 x) = (F x).isSome) (hF : ∀ u i, F u = some i → ∃ v : Nat, u = (v : Int) ∧ v < n) (hn : n ≤ 1024) {ss : List Int} (hp : ss.Perm (intKeys D)) :
    ss.mergeSort leI = stepL n F := by
  have hc : CollectedI D (fun _ => false) (stepL n F) := by
    refine ⟨stepL_lt.imp (fun h => Int.ne_of_lt h), fun x => ?_⟩
    constructor
    · intro hx
      obtain ⟨v, hv, rfl⟩ := List.mem_map.1 hx
      obtain ⟨h3, h4⟩ := stepN_mem.1 hv
      exact ⟨by rw [h2 _ (by unfold okInt; omega)]; exact h4, rfl⟩
    · rintro ⟨hx, -⟩
      have hok := has_ok hown hx
      rw [h2 x hok] at hx
      obtain ⟨i, hi⟩ := Option.isSome_iff_exists.1 hx
      obtain ⟨v, rfl, hv⟩ := hF x i hi
      exact List.mem_map.2 ⟨v, stepN_mem.2 ⟨hv, by rw [hi]; rfl⟩, rfl⟩
  have hq := hc.perm hown intk_keyed Tryz.underlying3 (fun _ => rfl)
  rw [mergeSort_of_perm_i (hp.trans hq.symm)]
  exact List.mergeSort_of_pairwise (stepL_lt.imp (fun h => by simpa [leI] using Int.le_of_lt h))

theorem sortsA (m : Nat) : AnyZI.SortsIn Tryz.prog Tryz.sortedA_ren Fence.wide m :=
  ⟨fun blk off cap ss W hH hblk hsz => callsIn_wide.2 (Tryz.slices_Sort_int blk off cap ss W hH hblk hsz),
   fun p cap W => callsIn_wide.2 (Tryz.slices_Sort_int_none p cap W)⟩

/-- what Step tells -/
def stepS (n : Nat) (F : Nat → Int → Option Int) (t : Int) : List Int := if 0 ≤ t ∧ t < (n : Int) then stepL n (F t.toNat) else []

set_option maxRecDepth 100000 in
set_option maxHeartbeats 4000000 in
theorem ex_Step {sp g n cg : Nat} {w : World} {mb : Nat → Nat} {F : Nat → Int → Option Int} {BD R D : Nat → Int} (hs1 : w.cell? ⟨sp, 1, none⟩ = some (.slice (some ⟨g, 0, none⟩) n cg)) (hR : RowsS w g n mb F BD R D) (hF : ∀ t, t < n → ∀ u i, F t u = some i → ∃ v : Nat, u = (v : Int) ∧ v < n) (hn : n ≤ 1024) (t : Int) :
    Calls Tryz.prog 20 #[.pointer (some ⟨sp, 0, none⟩), .int .i64 t] w fun e w' => ∃ v, e = .returned v ∧ Own w' w.heap.size 3 v ((stepS n F t).map encZ) ∧ Kp (fun _ => False) w w' := by
  have HIs := Lib.hid (ex_is hs1 t)
  by_cases h : 0 ≤ t ∧ t < (n : Int)
  · obtain ⟨v, rfl⟩ : ∃ v : Nat, t = (v : Int) := ⟨t.toNat, by omega⟩
    have hv : v < n := by omega
    have hS : stepS n F (v : Int) = stepL n (F v) := by unfold stepS; rw [if_pos h]; rfl
    rw [hS]
    rw [decide_eq_true h] at HIs
    have c0 := hR.cell0 hv
    obtain ⟨v0, v1⟩ := h
    obtain ⟨q, ⟨D0, hown, hM, hD⟩, hq⟩ := hR.map v hv
    have hsz := hown.size_le
    have hsort : ∀ ss : List Int, ss.Perm (intKeys D0) → ss.mergeSort leI = stepL n (F v) := fun ss hp => keys_sorted hown (fun x hx => (hD x hx).2) (hF v hv) hn hp
    have HSort := Lib.hid hsort
    obtain ⟨b, hb⟩ : ∃ b, mb v = b := ⟨_, rfl⟩
    rw [hb] at c0 hown
    have hbl := hown.lt
    have hmax : Maps.size D0 ≤ maxLen := Nat.le_trans (Nat.le_trans hsz hq) (by decide)
    have hbytes : Maps.size D0 * 8 ≤ 140737488355328 := by omega
    have hseq : SeqGives Fence.wide 2 Tryz.prog 69 #[.pointer (some ⟨w.heap.size, 0, none⟩)] encZ (fun ss => ss.Perm (intKeys D0)) (Maps.size D0) (w.alloc (.cells #[.map (some b)] 73)) :=
      AnyZI.keys_gives (ρ := Tryz.keysA_ren) { Tryz.keysA with } Fence.wide _ trivial rfl (by omega) w.heap.size b q D0 _ (by simp) (by simp) (by
        obtain ⟨es, clock, hb, Ft, hs, hD⟩ := hown
        exact ⟨es, clock, (Below.heap_alloc _ _ b hbl).trans hb, Ft, hs, hD⟩)
    have cK : ∀ mb W, CallsIn Fence.wide 5 Tryz.prog 50 #[.map mb] W fun e w' => e = .returned (.func (.func 69) #[] #[.pointer (some ⟨W.heap.size, 0, none⟩)]) ∧ w' = W.alloc (.cells #[.map mb] 73) := fun mb W => AnyZI.keys_in Tryz.keysA Fence.wide 5 trivial rfl mb W
    have cS := AnyZI.sorted_in Tryz.sortedA Fence.wide 5 trivial trivial trivial trivial rfl (by omega) (sortsA _) (enters_of Tryz.func68 (by kernel_rfl) rfl) 69 #[.pointer (some ⟨w.heap.size, 0, none⟩)] trivial (enters_of Tryz.func69 (by kernel_rfl) rfl) _ _ hmax hbytes _ hseq
    change CallsIn _ _ Tryz.prog 49 _ _ _ at cS
    have HCK := Lib.hid (fun mb W => (callsIn_wide).1 (cK mb W))
    have HCS := Lib.hid ((callsIn_wide).1 cS)
    clear hR hown hM hD hsz hq hmax hbytes hseq cK cS hb hbl hsort
    go_enter Tryz.func20, Tryz.ntmps20
    go_wp2_with (first
      | (go_at_call 48; refine Calls.mono HIs.out ?_; rintro e w2 ⟨rfl, rfl⟩)
      | (go_at_call 50; refine Calls.mono (HCK.out _ _) ?_; rintro e w2 ⟨rfl, rfl⟩)
      | (go_at_call 49; refine Calls.mono HCS.out ?_; rintro e w3 ⟨x, ss, rfl, hp, hrow, hnil, hb⟩; have HP := Lib.hid hp; have HRow := Lib.hid hrow; have HB := Lib.hid hb; clear hp hrow hnil hb))
    go_ret
    have hl : (stepL n (F v)).length = ss.length := by rw [← HSort.out ss HP.out]; simp
    refine ⟨_, rfl, ?_, ?_⟩
    · unfold Own
      rw [List.length_map, hl, ← HSort.out ss HP.out]
      exact ownsRow_base_a HRow.out (by simp)
    · exact ((Kp.refl _ w).alloc _).trans (Kp.of_below HB.out (fun _ => False)) (fun _ _ h => h)
  · have hS : stepS n F t = [] := by unfold stepS; rw [if_neg h]
    rw [hS]
    rw [decide_eq_false h] at HIs
    clear hR
    go_enter Tryz.func20, Tryz.ntmps20
    go_wp2_with (go_at_call 48; refine Calls.mono HIs.out ?_; rintro e w2 ⟨rfl, rfl⟩)
    go_ret
    exact ⟨_, rfl, Own.nil _ _ _, Kp.refl _ _⟩

end Go.Proofs.YtnoknecfdnjomaaGreat

/-
  A layer after the other: in the midst of a round. No program in sight.
-/
namespace Go.Proofs.YtnoknecfdnjomaaGreat
open Go.RowKit

/-- in a round behind m: what R says, and which are next; Q: to whom a step was looked at -/
structure MidG (n : Nat) (st : Nat → Bool) (E : Nat → Nat → Bool) (m : Nat) (Q : Nat → Prop) (R : Nat → Int) (N : List Nat) : Prop where
  old : ∀ t, t < n → distG n st E m t ≠ -1 → R t = distG n st E m t
  new : ∀ t, t < n → distG n st E m t = -1 → Q t → R t = (m : Int) + 1
  none : ∀ t, t < n → distG n st E m t = -1 → ¬ Q t → R t = -1
  nd : N.Nodup
  mem : ∀ t, t ∈ N ↔ t < n ∧ distG n st E m t = -1 ∧ Q t

section
variable {n : Nat} {st : Nat → Bool} {E : Nat → Nat → Bool} {m : Nat} {Q : Nat → Prop} {R : Nat → Int} {N : List Nat}

theorem MidG.start (h : ∀ t, t < n → R t = distG n st E m t) : MidG n st E m (fun _ => False) R [] :=
  ⟨fun t ht _ => h t ht, fun _ _ _ h => h.elim, fun t ht h1 _ => by rw [h t ht, h1], List.nodup_nil, fun t => ⟨fun h => (by cases h), fun h => h.2.2.elim⟩⟩
theorem MidG.congr {Q' : Nat → Prop} (h : MidG n st E m Q R N) (e : ∀ t, t < n → (Q t ↔ Q' t)) : MidG n st E m Q' R N :=
  ⟨h.old, fun t ht h1 h2 => h.new t ht h1 ((e t ht).2 h2), fun t ht h1 h2 => h.none t ht h1 (fun q => h2 ((e t ht).1 q)), h.nd, fun t => by
    rw [h.mem]
    exact ⟨fun ⟨a, b, c⟩ => ⟨a, b, (e t a).1 c⟩, fun ⟨a, b, c⟩ => ⟨a, b, (e t a).2 c⟩⟩⟩
/-- one that was not reached -/
theorem MidG.put (h : MidG n st E m Q R N) {u : Nat} (hu : u < n) (hr : R u = -1) : MidG n st E m (fun t => Q t ∨ t = u) (upI R u ((m : Int) + 1)) (N ++ [u]) := by
  have hd : distG n st E m u = -1 := by
    apply Classical.byContradiction
    intro q
    have := h.old u hu q
    rcases distG_cases (n := n) (st := st) (E := E) m u with ⟨_, z⟩ | ⟨_, z, _⟩
    · exact q z
    · omega
  have hq : ¬ Q u := fun q => by have := h.new u hu hd q; omega
  have hN : u ∉ N := fun q => hq ((h.mem u).1 q).2.2
  refine ⟨fun t ht h1 => ?_, fun t ht h1 h2 => ?_, fun t ht h1 h2 => ?_, ?_, fun t => ?_⟩
  · have : t ≠ u := fun e => h1 (by rw [e]; exact hd)
    unfold upI; rw [if_neg this]; exact h.old t ht h1
  · unfold upI
    by_cases e : t = u
    · rw [if_pos e]
    · rw [if_neg e]; exact h.new t ht h1 (h2.resolve_right e)
  · unfold upI
    rw [if_neg (fun e => h2 (.inr e))]
    exact h.none t ht h1 (fun q => h2 (.inl q))
  · rw [List.nodup_append]
    refine ⟨h.nd, by simp, fun a ha b hb => ?_⟩
    simp at hb
    subst hb
    exact fun e => hN (e ▸ ha)
  · rw [List.mem_append, h.mem]
    constructor
    · rintro (⟨a, b, c⟩ | h1)
      · exact ⟨a, b, .inl c⟩
      · simp at h1; subst h1; exact ⟨hu, hd, .inr rfl⟩
    · rintro ⟨a, b, c | c⟩
      · exact .inl ⟨a, b, c⟩
      · subst c; exact .inr (by simp)
/-- one that was reached -/
theorem MidG.skip (h : MidG n st E m Q R N) {u : Nat} (hu : u < n) (hr : R u ≠ -1) : MidG n st E m (fun t => Q t ∨ t = u) R N := by
  have hc : distG n st E m u ≠ -1 ∨ Q u := by
    by_cases e : distG n st E m u = -1
    · right
      apply Classical.byContradiction
      intro q
      exact hr (h.none u hu e q)
    · exact .inl e
  refine ⟨h.old, fun t ht h1 h2 => ?_, fun t ht h1 h2 => h.none t ht h1 (fun q => h2 (.inl q)), h.nd, fun t => ?_⟩
  · rcases h2 with h2 | h2
    · exact h.new t ht h1 h2
    · subst h2
      exact h.new t ht h1 (hc.resolve_left (fun q => q h1))
  · rw [h.mem]
    constructor
    · rintro ⟨a, b, c⟩; exact ⟨a, b, .inl c⟩
    · rintro ⟨a, b, c | c⟩
      · exact ⟨a, b, c⟩
      · subst c; exact ⟨a, b, hc.resolve_left (fun q => q b)⟩
/-- the round's end -/
theorem MidG.fin (h : MidG n st E m (fun t => ∃ s, s < n ∧ distG n st E m s = m ∧ E s t = true) R N) : (∀ t, t < n → R t = distG n st E (m + 1) t) ∧ ∀ t, t ∈ N ↔ t < n ∧ distG n st E (m + 1) t = ((m + 1 : Nat) : Int) := by
  have key : ∀ t, t < n → R t = distG n st E (m + 1) t := fun t ht => by
    by_cases e : distG n st E m t = -1
    · rw [distG_step e]
      by_cases q : ∃ s, s < n ∧ distG n st E m s = m ∧ E s t = true
      · rw [if_pos q]; exact h.new t ht e q
      · rw [if_neg q]; exact h.none t ht e q
    · rw [distG_keep e]; exact h.old t ht e
  refine ⟨key, fun t => ?_⟩
  rw [h.mem]
  constructor
  · rintro ⟨a, b, c⟩
    exact ⟨a, by rw [distG_step b, if_pos c]; omega⟩
  · rintro ⟨a, b⟩
    by_cases e : distG n st E m t = -1
    · rw [distG_step e] at b
      split at b
      · rename_i q; exact ⟨a, e, q⟩
      · omega
    · rw [distG_keep e] at b
      rcases distG_cases (n := n) (st := st) (E := E) m t with ⟨_, z⟩ | ⟨_, _, z⟩
      · exact absurd z e
      · omega
end

end Go.Proofs.YtnoknecfdnjomaaGreat

/-
  step.Starts.
-/
namespace Go.Proofs.YtnoknecfdnjomaaGreat
open Go.RowKit

set_option maxRecDepth 100000 in
set_option maxHeartbeats 4000000 in
theorem step_Starts (V : CV) (C : Circ) (p : Nat) (a4 a5 : Option Addr) (c4 c5 : Nat) (sa : Option Addr) (sn sc : Nat) (st : List Bool) (w : World) (hM : MAt w 99 V C p a4 c4 a5 c5) (hf : CFew C 1000000) (hg : GoodC C) (hs : BS w sa sn st) :
    Calls Tryz.prog 64 #[.pointer (some ⟨p, 0, none⟩), .slice sa sn sc] w fun e w' => e = .returned (.bool (startsM C st)) ∧ Kp (fun _ => False) w w' := by
  obtain ⟨nl, hnl⟩ : ∃ n, C.lats.length = n := ⟨_, rfl⟩
  have hnl1 : nl ≤ 1000000 := by have := hf.l; omega
  have HNl := Lib.hid hnl
  have hB : w.cell? ⟨p, 2, none⟩ = some (.slice V.al nl V.cl) := hM.blk.cell (i := 2) (by rw [← hnl]; rfl)
  have HLa := Lib.hid (step_Latches V C p a4 a5 c4 c5 w hM hf)
  rw [hnl] at HLa
  have HRes := Lib.hid (show ∀ k, k < nl → 0 ≤ (g3 C.lats k).2.2 from fun k hk => by
    have h1 := hg.rng.res _ (g3_mem (G := C.lats) (i := k) (by omega))
    have h2 := hg.rng.own _ (lat_own (C := C) (i := k) (by omega))
    omega)
  have HM := Lib.hid hM
  have HS := Lib.hid hs
  have hsm := hs.most
  obtain ⟨r, hr⟩ : ∃ r, startsM C st = r := ⟨_, rfl⟩
  rw [hr]
  unfold startsM at hr
  rw [hnl, hs.len] at hr
  clear hM hf hg hs hnl
  by_cases hl : sn = nl
  · rw [decide_eq_true hl, Bool.true_and] at hr
    have HR := Lib.hid hr
    have q0 : ((sn : Int) == (nl : Int)) = true := by simp [hl]
    subst hl
    clear hr
    go_enter Tryz.func64, Tryz.ntmps64
    go_wp2_with (go_at_call 34; with_reducible refine Calls.mono HLa.out ?_; rintro e w1 ⟨rfl, rfl⟩)
    go_loopw [22] (fun v22 wr => ∃ k : Nat, v22 = .int .i64 k ∧ k ≤ sn ∧ (List.range k).all (fun k => startOk (g3 C.lats k).2.2 (vb st k)) = true ∧ Kp (fun _ => False) w wr) (fun v22 _ => sn - (intOf v22).toNat)
    case atStart => exact ⟨0, rfl, by omega, rfl, Kp.refl _ _⟩
    case round =>
      obtain ⟨k, rfl, hk, hall, hK⟩ := hrel
      obtain ⟨wp, rfl⟩ : ∃ wp : World, wp = wr := ⟨_, rfl⟩
      have HK := Lib.hid hK
      clear hK
      by_cases hlt : k < sn
      · have hkl : k < C.lats.length := by rw [HNl.out]; exact hlt
        obtain ⟨b, off, ea, hE⟩ := HM.out.circ.latCell hkl
        obtain ⟨e0, e1, e2⟩ := hE _ HK.out
        obtain ⟨b3, off3, ea3, e3⟩ := HS.out.row k _ (bv_at (by rw [HS.out.len]; exact hlt))
        have e3 := HK.out.cellK e3
        have hS := all_range_succ (fun k => startOk (g3 C.lats k).2.2 (vb st k)) k
        rw [hall, Bool.true_and] at hS
        have hF : startOk (g3 C.lats k).2.2 (vb st k) = false → r = false := fun h => by
          rw [← HR.out]; exact all_range_lt hlt h
        have hrs := HRes.out k hlt
        obtain ⟨y0, hy0⟩ : ∃ x, (g3 C.lats k).1 = x := ⟨_, rfl⟩
        obtain ⟨y1, hy1⟩ : ∃ x, (g3 C.lats k).2.1 = x := ⟨_, rfl⟩
        obtain ⟨x, hx⟩ : ∃ x, (g3 C.lats k).2.2 = x := ⟨_, rfl⟩
        obtain ⟨y, hy⟩ : ∃ y, vb st k = y := ⟨_, rfl⟩
        rw [hy0] at e0
        rw [hy1] at e1
        rw [hx] at e2 hrs
        rw [hy] at e3
        rw [hx, hy] at hS hF
        have HSS := Lib.hid hS
        have HFl := Lib.hid hF
        rw [ea]
        subst ea3
        have i0 : (0 : Int) ≤ (k : Int) := by omega
        have i2 : (k : Int) < (sn : Int) := by omega
        have hka := (Kp.refl (fun _ => False) wp).alloc (.cells #[.int .i64 y0, .int .i64 y1, .int .i64 x] 64)
        have nb := (Blk.new wp #[.int .i64 y0, .int .i64 y1, .int .i64 x] 64).cell (i := 2) (v := .int .i64 x) rfl
        have e4 := hka.cellK e3
        have HKa := Lib.hid (HK.out.trans hka (fun _ _ h => h))
        clear hx hy hy0 hy1 hS hF hE ea hkl hall hka
        by_cases x0 : x = 0
        · subst x0
          cases y with
          | true =>
            obtain rfl : r = false := HFl.out rfl
            go_upto_region 6 with fail
            go_quiet (fail)
            go_wp2_with fail
            go_ret
            exact ⟨rfl, HKa.out.drewN _⟩
          | false =>
            go_upto_region 6 with fail
            go_quiet (fail)
            go_wp2_with fail
            exact ⟨⟨k + 1, by go_num, by omega, by rw [HSS.out]; rfl, HKa.out.drewN _⟩, by simp [intOf]; omega⟩
        · by_cases x1 : x = 1
          · subst x1
            cases y with
            | false =>
              obtain rfl : r = false := HFl.out rfl
              clear x0
              go_upto_region 6 with fail
              go_quiet (fail)
              go_wp2_with fail
              go_ret
              exact ⟨rfl, HKa.out.drewN _⟩
            | true =>
              clear x0
              go_upto_region 6 with fail
              go_quiet (fail)
              go_wp2_with fail
              exact ⟨⟨k + 1, by go_num, by omega, by rw [HSS.out]; rfl, HKa.out.drewN _⟩, by simp [intOf]; omega⟩
          · have z1 : decide (x < 2) = false := decide_eq_false (by omega)
            have z2 : ¬ x < 2 := by omega
            have HOk := Lib.hid (show startOk x y = true by unfold startOk; rw [decide_eq_false x0, decide_eq_false x1]; rfl)
            clear x0 x1
            go_upto_region 6 with fail
            go_quiet (fail)
            go_wp2_with fail
            exact ⟨⟨k + 1, by go_num, by omega, by rw [HSS.out, HOk.out], HKa.out.drewN _⟩, by simp [intOf]; omega⟩
      · obtain rfl : k = sn := by omega
        obtain rfl : r = true := by rw [← HR.out]; exact hall
        clear hall
        go_wp2_with fail
        go_ret
        exact ⟨rfl, HK.out⟩
  · rw [decide_eq_false hl, Bool.false_and] at hr
    subst hr
    have q0 : ((sn : Int) == (nl : Int)) = false := by simp; omega
    clear hl
    go_enter Tryz.func64, Tryz.ntmps64
    go_wp2_with (go_at_call 34; with_reducible refine Calls.mono HLa.out ?_; rintro e w1 ⟨rfl, rfl⟩)
    go_ret
    exact ⟨rfl, Kp.refl _ _⟩

end Go.Proofs.YtnoknecfdnjomaaGreat

/-
  a range over a map[int]int.
-/
namespace Go.Proofs.YtnoknecfdnjomaaGreat
open Go.RowKit

/-- the range over map b, whose iterator is at r: which keys are left -/
def RGI (w : World) (b r n : Nat) (F : Int → Option Int) (left : Int → Prop) (cnt : Nat) : Prop :=
  ∃ (D : DataW Unit) (lf : Lit → Bool), w.ranges Tryz.prog 3 (plainElem Tryz.prog 3) b r n D lf cnt ∧ (∀ x, okInt x → D.atKey (.int .i64 x) (.lit (.int .i64 0)) = .lit (.int .i64 ((F x).getD 0)) ∧ Maps.has D (.int .i64 x) = (F x).isSome) ∧
    (∀ x, okInt x → (lf (.int .i64 x) = true ↔ left x)) ∧ ∀ x, okInt x → left x → (F x).isSome = true

section
variable {w : World} {b r n cnt : Nat} {F : Int → Option Int} {left : Int → Prop}

theorem RGI.left_eq (h : RGI w b r n F left cnt) : w.rangeLeft b r = cnt := by obtain ⟨D, lf, h, _⟩ := h; exact h.left_eq
theorem RGI.ne (h : RGI w b r n F left cnt) : r ≠ b := by obtain ⟨D, lf, h, _⟩ := h; exact h.ne
theorem RGI.lt (h : RGI w b r n F left cnt) : r < w.heap.size := by obtain ⟨D, lf, h, _⟩ := h; exact h.lt
theorem RGI.ltb (h : RGI w b r n F left cnt) : b < w.heap.size := by obtain ⟨D, lf, h, _⟩ := h; exact h.owns.lt
theorem RGI.kp {S : Nat → Prop} {w' : World} (h : RGI w b r n F left cnt) (k : Kp S w w') (hb : ¬ S b) (hr : ¬ S r) : RGI w' b r n F left cnt := by
  have h1 := h.ltb
  have h2 := h.lt
  obtain ⟨D, lf, ⟨es, clock, since, seen, c0, q1, q2, q3, q4, q5, q6⟩, h4⟩ := h
  exact ⟨D, lf, ⟨es, clock, since, seen, c0, (k.block b h1 hb).trans q1, q2, q3, q4, (k.block r h2 hr).trans q5, q6⟩, h4⟩
theorem RGI.congr {left' : Int → Prop} (h : RGI w b r n F left cnt) (e : ∀ x, okInt x → (left x ↔ left' x)) : RGI w b r n F left' cnt := by
  obtain ⟨D, lf, h1, h2, h3, h4⟩ := h
  exact ⟨D, lf, h1, h2, fun x hx => (h3 x hx).trans (e x hx), fun x hx h => h4 x hx ((e x hx).2 h)⟩

variable {ops : Array Oper} {rest : List Oper} {o : Oper} {a : Act} {Q : Exit → Act → World → Prop}

theorem wpList_rangeI (hg : o.guard = none) (m : Operand) (hop : o.op = Op.range 73 m) (hm : a.eval m = .map (some b)) (hI : IMI w b n F)
    (hK : ∀ w' cnt, RGI w' b w.heap.size n F (fun x => (F x).isSome = true) cnt → Kp (fun _ => False) w w' → w'.heap.size = w.heap.size + 1 → wpList Tryz.prog ops Q rest (a.put o.dst (.pointer (some ⟨w.heap.size, 0, none⟩))) w') :
    wpList Tryz.prog ops Q (o :: rest) a w := by
  obtain ⟨D, h1, h2, h3⟩ := hI
  refine wpList_range_own _ hg m 73 hop 3 3 intk_keyed Tryz.underlying73 (plainElem Tryz.prog 3) b n D hm h1 fun w' r1 r2 r3 => ?_
  exact hK w' _ ⟨D, _, r1, h3, fun x hx => by rw [(h3 x hx).2], fun x hx h => h⟩ ((Kp.refl _ w).grown r2 (fun j hj _ => by cases hj)) r3

theorem wpList_nextI (hg : o.guard = none) (it : Operand) (hop : o.op = Op.next it false) (hit : a.eval it = .pointer (some ⟨r, 0, none⟩)) (h : RGI w b r n F left cnt)
    (hDone : (∀ x, okInt x → ¬ left x) → wpList Tryz.prog ops Q rest (a.put o.dst (.tuple #[.bool false])) w)
    (hMore : ∀ (x c : Int) (w' : World) (cnt' : Nat), okInt x → left x → F x = some c → RGI w' b r n F (fun z => left z ∧ z ≠ x) cnt' → cnt' < cnt → Kp (· = r) w w' → w'.heap.size = w.heap.size → (Instr.entry (.pointer (some ⟨r, 0, none⟩))).run Tryz.prog w' = .ok (.tuple #[.int .i64 x, .int .i64 c]) w' →
      wpList Tryz.prog ops Q rest (a.put o.dst (.tuple #[.bool true, .int .i64 x, .int .i64 c])) w') :
    wpList Tryz.prog ops Q (o :: rest) a w := by
  obtain ⟨D, lf, h1, h2, h3, h4⟩ := h
  refine wpList_next_ranges_ii _ hg it hop 3 3 .i64 .i64 intk_keyed Tryz.underlying3 Tryz.underlying3 b r n D lf cnt hit h1 (fun _ hl => hDone fun x hx h => by have := hl (.int .i64 x); rw [(h3 x hx).2 h] at this; cases this) fun x c w' cnt' hx hc hl hat hr hlt hgr hsz hen => ?_
  have okx : okInt x := by
    simp [Lit.wf, IntKind.min, IntKind.max, IntKind.signed, IntKind.bits] at hx
    unfold okInt; omega
  have hlx := (h3 x okx).1 hl
  have hF : F x = some c := by
    have e := (h2 x okx).1
    rw [hat] at e
    have hs := h4 x okx hlx
    obtain ⟨y, hy⟩ := Option.isSome_iff_exists.1 hs
    rw [hy] at e ⊢
    simp only [Option.getD_some, DataW.lit.injEq, Lit.int.injEq, true_and] at e
    rw [e]
  refine hMore x c w' cnt' okx hlx hF ⟨D, _, hr, h2, fun z hz => ?_, fun z hz h => h4 z hz h.1⟩ hlt ((Kp.refl _ w).grown hgr (fun j hj _ => by simpa using hj.symm)) hsz hen
  simp only [Bool.and_eq_true, (h3 z hz), Bool.not_eq_true']
  refine and_congr_right fun _ => ?_
  by_cases e : z = x
  · subst e; simp [WideAt.sameKey_self (intk_keyed.key (intk_key hz))]
  · have : (Lit.int IntKind.i64 z).sameKey (.int .i64 x) = false := by
      cases hs : (Lit.int IntKind.i64 z).sameKey (.int .i64 x)
      · rfl
      · exact absurd (WideAt.sameKey_eq hs) (by simpa using e)
    simp [e, this]
end

end Go.Proofs.YtnoknecfdnjomaaGreat

/-
  explore: forwards.
-/
namespace Go.Proofs.YtnoknecfdnjomaaGreat
open Go.RowKit

/-- the bits of a state -/
def BSV (C : Circ) (k : Nat) (u : World) (v : Value) : Prop := ∃ a c, v = .slice a C.lats.length c ∧ BS u a C.lats.length (stN C k)
theorem BSV.st (C : Circ) (k : Nat) : Stable (BSV C k) := fun _ _ _ k ⟨a, c, h1, h2⟩ => ⟨a, c, h1, h2.kp k⟩
/-- the first states among the first k -/
def firstR (st : Nat → Bool) (k t : Nat) : Int := if t < k ∧ st t = true then 0 else -1

theorem firstR_skip {st : Nat → Bool} {k : Nat} (h : st k = false) : firstR st (k + 1) = firstR st k := by
  funext t
  unfold firstR
  by_cases q : t < k ∧ st t = true
  · rw [if_pos q, if_pos ⟨by omega, q.2⟩]
  · rw [if_neg q, if_neg]
    rintro ⟨h1, h2⟩
    by_cases e : t = k
    · rw [e, h] at h2; cases h2
    · exact q ⟨by omega, h2⟩
theorem firstR_put {st : Nat → Bool} {k : Nat} (h : st k = true) : firstR st (k + 1) = upI (firstR st k) k 0 := by
  funext t
  show firstR st (k + 1) t = if t = k then 0 else firstR st k t
  unfold firstR
  by_cases e : t = k
  · subst e; simp [h]
  · rw [if_neg e]
    by_cases q : t < k ∧ st t = true
    · rw [if_pos q, if_pos ⟨by omega, q.2⟩]
    · rw [if_neg q, if_neg]
      rintro ⟨h1, h2⟩
      exact q ⟨by omega, h2⟩
theorem firstR_dist {st : Nat → Bool} {E : Nat → Nat → Bool} {n t : Nat} (ht : t < n) : firstR st n t = distG n st E 0 t := by
  unfold firstR distG
  by_cases h : st t = true
  · rw [if_pos ⟨ht, h⟩, if_pos h]
  · rw [if_neg (fun q => h q.2), if_neg h]
theorem RowsS.congrR {w : World} {g n : Nat} {mb : Nat → Nat} {F : Nat → Int → Option Int} {BD R R' D : Nat → Int} (h : RowsS w g n mb F BD R D) (e : ∀ t, t < n → R t = R' t) : RowsS w g n mb F BD R' D := by
  refine ⟨?_, h.map, h.ne⟩
  have := h.blk
  rw [rowC_congr (h' := rowH mb BD R' D) fun i hi => by
    unfold rowH rowV
    rw [e (i / 4) (by omega)]] at this
  exact this
/-- the rows' blocks lie below B -/
def LowR (B g n : Nat) (mb : Nat → Nat) : Prop := g < B ∧ ∀ t, t < n → mb t < B
theorem RowsS.lowR {w : World} {g n : Nat} {mb : Nat → Nat} {F : Nat → Int → Option Int} {BD R D : Nat → Int} (h : RowsS w g n mb F BD R D) : LowR w.heap.size g n mb := ⟨h.blk.lt, fun t ht => by obtain ⟨q, h1, -⟩ := h.map t ht; exact h1.lt⟩
theorem RowsS.kpL {w w' : World} {B g n : Nat} {mb : Nat → Nat} {F : Nat → Int → Option Int} {BD R D : Nat → Int} (h : RowsS w g n mb F BD R D) (hl : LowR B g n mb) (k : Kp (fun j => B ≤ j) w w') : RowsS w' g n mb F BD R D :=
  h.kpS k (by have := hl.1; omega) (fun t ht => by have := hl.2 t ht; omega)

set_option maxRecDepth 100000 in
set_option maxHeartbeats 8000000 in
theorem ex_forwards {V : CV} {C : Circ} {p sp g n cg : Nat} {a4 a5 : Option Addr} {c4 c5 : Nat} {w : World} {mb : Nat → Nat} {F : Nat → Int → Option Int} {BD D : Nat → Int} (hM : MAt w 99 V C p a4 c4 a5 c5) (hf : CFew C 1000000) (hg : GoodC C) (hl : C.lats.length ≤ 10) (hn : n = 2 ^ C.lats.length)
    (hs0 : w.cell? ⟨sp, 0, none⟩ = some (.pointer (some ⟨p, 0, none⟩))) (hs1 : w.cell? ⟨sp, 1, none⟩ = some (.slice (some ⟨g, 0, none⟩) n cg)) (hR : RowsS w g n mb F BD (fun _ => -1) D) (hF : ∀ t, t < n → ∀ u i, F t u = some i → ∃ v : Nat, u = (v : Int) ∧ v < n) (hgp : g ≠ p) (hgs : g ≠ sp) (hMK : ∀ w2, Kp (fun j => j = g) w w2 → MAt w2 99 V C p a4 c4 a5 c5) :
    Calls Tryz.prog 37 #[.pointer (some ⟨sp, 0, none⟩)] w fun e w' => e = .returned (.tuple #[]) ∧ RowsS w' g n mb F BD (distG n (fun t => startsM C (stN C t)) (fun s t => (F s (t : Int)).isSome) n) D ∧ Kp (fun j => j = g) w w' := by
  have HI := Lib.hid (show (Tryz.prog.info? 3).map (fun i => (i.zero, i.size, i.bytes)) = some (some (.int .i64 0), 1, 8) by kernel_rfl)
  have hn9 : n ≤ 1024 := by rw [hn]; have := Nat.pow_le_pow_right (n := 2) (by decide) hl; exact this
  obtain ⟨st, hst⟩ : ∃ st : Nat → Bool, (fun t => startsM C (stN C t)) = st := ⟨_, rfl⟩
  have HSt := Lib.hid hst
  rw [hst]
  obtain ⟨E, hE⟩ : ∃ E : Nat → Nat → Bool, (fun s (t : Nat) => (F s (t : Int)).isSome) = E := ⟨_, rfl⟩
  rw [hE]
  have HE := Lib.hid (fun s t => congrFun (congrFun hE s) t)
  clear hE
  have HR0 : Hid (RowsS w g n mb F BD (firstR st 0) D) := Lib.hid (by
    have e : firstR st 0 = fun _ => -1 := by funext t; unfold firstR; rw [if_neg (fun h => absurd h.1 (Nat.not_lt_zero t))]
    rw [e]; exact hR)
  have HStt := Lib.hid (fun (u : World) (hu : Kp (fun j => j = g) w u) k a c (hb : BS u a C.lats.length (stN C k)) => (step_Starts V C p a4 a5 c4 c5 a _ c (stN C k) u (hMK u hu) hf hg hb).mono (R' := fun e w' => e = .returned (.bool (st k)) ∧ Kp (fun _ => False) u w') (by rintro e w' ⟨rfl, h⟩; rw [← hst]; exact ⟨rfl, h⟩))
  have HSta := Lib.hid (fun (u : World) (hu : Kp (fun j => j = g) w u) k (hk : k < n) => (ex_state (hMK u hu) hf ((World.cell?_of_block (w := w) (w' := u) (a := ⟨sp, 0, none⟩) (hu.block sp (World.block_lt_of_cell? w _ hs0) (fun e => hgs e.symm))).trans hs0) hl k (by rw [← hn]; exact hk)).mono (R' := fun e w' => ∃ v, e = .returned v ∧ Kp (fun _ => False) u w' ∧ BSV C k w' v) (by
    rintro e w' ⟨v, rfl, hO, hK⟩
    obtain ⟨a, c, e, -, -, -, hr⟩ := hO.form
    have hsl : (stN C k).length = C.lats.length := bitsP_len _ _
    rw [bv_length, hsl] at e
    exact ⟨v, rfl, hK, a, c, e, hr, hsl, by omega⟩))
  have HCs := Lib.hid (fun (u : World) (hu : Kp (fun j => j = g) w u) => show u.cell? ⟨sp, 0, none⟩ = some (.pointer (some ⟨p, 0, none⟩)) ∧ u.cell? ⟨sp, 1, none⟩ = some (.slice (some ⟨g, 0, none⟩) n cg) from
    ⟨(World.cell?_of_block (w := w) (w' := u) (a := ⟨sp, 0, none⟩) (hu.block sp (World.block_lt_of_cell? w _ hs0) (fun e => hgs e.symm))).trans hs0, (World.cell?_of_block (w := w) (w' := u) (a := ⟨sp, 1, none⟩) (hu.block sp (World.block_lt_of_cell? w _ hs0) (fun e => hgs e.symm))).trans hs1⟩)
  have HF := Lib.hid hF
  have HLw := Lib.hid hR.lowR
  have HGp := Lib.hid (show g ≠ p ∧ g ≠ sp from ⟨hgp, hgs⟩)
  have hs1' := hs1
  have HN := Lib.hid hn
  clear hM hR hF hst hgp hgs hMK hs0 hg hf hn
  go_enter Tryz.func37, Tryz.ntmps37
  go_wp2_with fail
  go_loopw [2, 14] (fun v2 v14 wr => ∃ (k : Nat) (L : List Nat), v14 = .int .i64 (k : Int) ∧ k ≤ n ∧ RowsS wr g n mb F BD (firstR st k) D ∧ Own wr w.heap.size 3 v2 (nv L) ∧ L.Nodup ∧ (∀ t, t ∈ L ↔ t < k ∧ st t = true) ∧ Kp (fun j => j = g) w wr) (fun _ v14 _ => n - (intOf v14).toNat)
  case atStart => exact ⟨0, [], rfl, Nat.zero_le _, HR0.out, Own.nil _ _ _, List.nodup_nil, fun t => ⟨fun h => (by cases h), fun h => absurd h.1 (Nat.not_lt_zero t)⟩, Kp.refl _ _⟩
  case round =>
    clear HR0 hs1 hs1'
    obtain ⟨k, L, rfl, hk, hRw, hO, hnd, hm, hK⟩ := hrel
    have HRw := Lib.hid hRw
    have HO := Lib.hid hO
    have HNd := Lib.hid hnd
    have HMm := Lib.hid hm
    have HK := Lib.hid hK
    clear hRw hO hnd hm hK
    obtain ⟨wp, rfl⟩ : ∃ wp : World, wp = wr := ⟨_, rfl⟩
    obtain ⟨hsp, hsg⟩ := HCs.out wp HK.out
    by_cases hlt : k < n
    · have k0 : (0 : Int) ≤ (k : Int) := by omega
      have k1 : (k : Int) < (n : Int) := by omega
      have HStk := Lib.hid (fun u (hu : Kp (fun _ => False) wp u) => HSta.out u (HK.out.trans (hu.mono (T := fun j => j = g) (fun _ _ h => h.elim)) (fun _ _ h => h)) k hlt)
      go_upto_region 4 with fail
      refine wp_region_loose (p := upTo 7) (V := atV [EqV ((.pointer (some ⟨sp, 0, none⟩))), EqV (.pointer (some ⟨sp, 0, none⟩)), EqV (.pointer (some ⟨sp, 0, none⟩)), EqV (.pointer (some ⟨p, 0, none⟩)), EqV ((.pointer (some ⟨sp, 0, none⟩))), EqV ((.int .i64 (k : Int))), BSV C k]) (LP := #[true, true, true, true, true, true, true, false]) (K := 1) (by kernel_rfl) (by kernel_rfl) (atV_st ?hstS4) ?hstepS4 (by kernel_rfl) ?hLPS4 (by kernel_rfl) ?hendS4
      case hstS4 =>
        intro W h
        simp only [List.mem_cons, List.not_mem_nil, or_false] at h
        rcases h with rfl | rfl | rfl | rfl | rfl | rfl | rfl <;> first | exact EqV.st _ | exact BSV.st _ _
      case hLPS4 => exact upTo_spec (by kernel_rfl)
      case hstepS4 =>
        intro i o ho hp a u hk hoff hdep
        have e0 : a.tmps[0]?.getD undef = (.pointer (some ⟨sp, 0, none⟩)) := slot_at (hoff 0 (noDst_spec (by kernel_rfl)))
        have e3 : a.tmps[3]?.getD undef = (.int .i64 (k : Int)) := slot_at (hoff 3 (noDst_spec (by kernel_rfl)))
        clear hoff
        match i, ho with
        | 0, ho =>
          obtain rfl := Option.some.inj ho
          refine lw_value (v := (.pointer (some ⟨sp, 0, none⟩))) (u' := u) ?_ (Kp.refl _ _) rfl
          go_simp
        | 1, ho =>
          obtain rfl := Option.some.inj ho
          have e17 : a.tmps[17]?.getD undef = (.pointer (some ⟨sp, 0, none⟩)) := slot_at (hdep ⟨0, .data⟩ (by simp) rfl _ 17 rfl rfl)
          refine lw_value (v := .pointer (some ⟨sp, 0, none⟩)) (u' := u) ?_ (Kp.refl _ _) rfl
          go_simp
        | 2, ho =>
          obtain rfl := Option.some.inj ho
          have e18 : a.tmps[18]?.getD undef = .pointer (some ⟨sp, 0, none⟩) := slot_at (hdep ⟨1, .data⟩ (by simp) rfl _ 18 rfl rfl)
          refine lw_value (v := .pointer (some ⟨sp, 0, none⟩)) (u' := u) ?_ (Kp.refl _ _) rfl
          go_simp
        | 3, ho =>
          obtain rfl := Option.some.inj ho
          have e19 : a.tmps[19]?.getD undef = .pointer (some ⟨sp, 0, none⟩) := slot_at (hdep ⟨2, .data⟩ (by simp) rfl _ 19 rfl rfl)
          have c1 := hk.cellAt2 hsp
          refine lw_value (v := .pointer (some ⟨p, 0, none⟩)) (u' := u) ?_ (Kp.refl _ _) rfl
          go_simp
        | 4, ho =>
          obtain rfl := Option.some.inj ho
          refine lw_value (v := (.pointer (some ⟨sp, 0, none⟩))) (u' := u) ?_ (Kp.refl _ _) rfl
          go_simp
        | 5, ho =>
          obtain rfl := Option.some.inj ho
          refine lw_value (v := (.int .i64 (k : Int))) (u' := u) ?_ (Kp.refl _ _) rfl
          go_simp
        | 6, ho =>
          obtain rfl := Option.some.inj ho
          have e21 : a.tmps[21]?.getD undef = (.pointer (some ⟨sp, 0, none⟩)) := slot_at (hdep ⟨4, .data⟩ (by simp) rfl _ 21 rfl rfl)
          have e22 : a.tmps[22]?.getD undef = (.int .i64 (k : Int)) := slot_at (hdep ⟨5, .data⟩ (by simp) rfl _ 22 rfl rfl)
          refine lw_call (f := 52) (args := #[.pointer (some ⟨sp, 0, none⟩), .int .i64 (k : Int)]) ?_ ?_
          · go_simp
          · exact HStk.out u hk
        | n + 7, _ => exact absurd hp (by simp [upTo])
      case hendS4 =>
        intro a u hI
        have hsz : a.tmps.size = 84 := hI.size
        have hdf : a.defers = [] := hI.defers
        have f0 : a.tmps.getD 0 undef = _ := hI.off 0 (noDst_spec (p := upTo 7) (by kernel_rfl))
        have f1 : a.tmps.getD 1 undef = _ := hI.off 1 (noDst_spec (p := upTo 7) (by kernel_rfl))
        have f2 : a.tmps.getD 2 undef = _ := hI.off 2 (noDst_spec (p := upTo 7) (by kernel_rfl))
        have f3 : a.tmps.getD 3 undef = _ := hI.off 3 (noDst_spec (p := upTo 7) (by kernel_rfl))
        have f4 : a.tmps.getD 4 undef = _ := hI.off 4 (noDst_spec (p := upTo 7) (by kernel_rfl))
        have f5 : a.tmps.getD 5 undef = _ := hI.off 5 (noDst_spec (p := upTo 7) (by kernel_rfl))
        have f6 : a.tmps.getD 6 undef = _ := hI.off 6 (noDst_spec (p := upTo 7) (by kernel_rfl))
        have f7 : a.tmps.getD 7 undef = _ := hI.off 7 (noDst_spec (p := upTo 7) (by kernel_rfl))
        have f8 : a.tmps.getD 8 undef = _ := hI.off 8 (noDst_spec (p := upTo 7) (by kernel_rfl))
        have f9 : a.tmps.getD 9 undef = _ := hI.off 9 (noDst_spec (p := upTo 7) (by kernel_rfl))
        have f10 : a.tmps.getD 10 undef = _ := hI.off 10 (noDst_spec (p := upTo 7) (by kernel_rfl))
        have f11 : a.tmps.getD 11 undef = _ := hI.off 11 (noDst_spec (p := upTo 7) (by kernel_rfl))
        have f12 : a.tmps.getD 12 undef = _ := hI.off 12 (noDst_spec (p := upTo 7) (by kernel_rfl))
        have f13 : a.tmps.getD 13 undef = _ := hI.off 13 (noDst_spec (p := upTo 7) (by kernel_rfl))
        have f14 : a.tmps.getD 14 undef = _ := hI.off 14 (noDst_spec (p := upTo 7) (by kernel_rfl))
        have f15 : a.tmps.getD 15 undef = _ := hI.off 15 (noDst_spec (p := upTo 7) (by kernel_rfl))
        have f16 : a.tmps.getD 16 undef = _ := hI.off 16 (noDst_spec (p := upTo 7) (by kernel_rfl))
        have f24 : a.tmps.getD 24 undef = _ := hI.off 24 (noDst_spec (p := upTo 7) (by kernel_rfl))
        have f25 : a.tmps.getD 25 undef = _ := hI.off 25 (noDst_spec (p := upTo 7) (by kernel_rfl))
        have f26 : a.tmps.getD 26 undef = _ := hI.off 26 (noDst_spec (p := upTo 7) (by kernel_rfl))
        have f27 : a.tmps.getD 27 undef = _ := hI.off 27 (noDst_spec (p := upTo 7) (by kernel_rfl))
        have f28 : a.tmps.getD 28 undef = _ := hI.off 28 (noDst_spec (p := upTo 7) (by kernel_rfl))
        have f29 : a.tmps.getD 29 undef = _ := hI.off 29 (noDst_spec (p := upTo 7) (by kernel_rfl))
        have f30 : a.tmps.getD 30 undef = _ := hI.off 30 (noDst_spec (p := upTo 7) (by kernel_rfl))
        have f31 : a.tmps.getD 31 undef = _ := hI.off 31 (noDst_spec (p := upTo 7) (by kernel_rfl))
        have f32 : a.tmps.getD 32 undef = _ := hI.off 32 (noDst_spec (p := upTo 7) (by kernel_rfl))
        have f33 : a.tmps.getD 33 undef = _ := hI.off 33 (noDst_spec (p := upTo 7) (by kernel_rfl))
        have f34 : a.tmps.getD 34 undef = _ := hI.off 34 (noDst_spec (p := upTo 7) (by kernel_rfl))
        have f35 : a.tmps.getD 35 undef = _ := hI.off 35 (noDst_spec (p := upTo 7) (by kernel_rfl))
        have f36 : a.tmps.getD 36 undef = _ := hI.off 36 (noDst_spec (p := upTo 7) (by kernel_rfl))
        have f37 : a.tmps.getD 37 undef = _ := hI.off 37 (noDst_spec (p := upTo 7) (by kernel_rfl))
        have f38 : a.tmps.getD 38 undef = _ := hI.off 38 (noDst_spec (p := upTo 7) (by kernel_rfl))
        have f39 : a.tmps.getD 39 undef = _ := hI.off 39 (noDst_spec (p := upTo 7) (by kernel_rfl))
        have f40 : a.tmps.getD 40 undef = _ := hI.off 40 (noDst_spec (p := upTo 7) (by kernel_rfl))
        have f41 : a.tmps.getD 41 undef = _ := hI.off 41 (noDst_spec (p := upTo 7) (by kernel_rfl))
        have f42 : a.tmps.getD 42 undef = _ := hI.off 42 (noDst_spec (p := upTo 7) (by kernel_rfl))
        have f43 : a.tmps.getD 43 undef = _ := hI.off 43 (noDst_spec (p := upTo 7) (by kernel_rfl))
        have f44 : a.tmps.getD 44 undef = _ := hI.off 44 (noDst_spec (p := upTo 7) (by kernel_rfl))
        have f45 : a.tmps.getD 45 undef = _ := hI.off 45 (noDst_spec (p := upTo 7) (by kernel_rfl))
        have f46 : a.tmps.getD 46 undef = _ := hI.off 46 (noDst_spec (p := upTo 7) (by kernel_rfl))
        have f47 : a.tmps.getD 47 undef = _ := hI.off 47 (noDst_spec (p := upTo 7) (by kernel_rfl))
        have f48 : a.tmps.getD 48 undef = _ := hI.off 48 (noDst_spec (p := upTo 7) (by kernel_rfl))
        have f49 : a.tmps.getD 49 undef = _ := hI.off 49 (noDst_spec (p := upTo 7) (by kernel_rfl))
        have f50 : a.tmps.getD 50 undef = _ := hI.off 50 (noDst_spec (p := upTo 7) (by kernel_rfl))
        have f51 : a.tmps.getD 51 undef = _ := hI.off 51 (noDst_spec (p := upTo 7) (by kernel_rfl))
        have f52 : a.tmps.getD 52 undef = _ := hI.off 52 (noDst_spec (p := upTo 7) (by kernel_rfl))
        have f53 : a.tmps.getD 53 undef = _ := hI.off 53 (noDst_spec (p := upTo 7) (by kernel_rfl))
        have f54 : a.tmps.getD 54 undef = _ := hI.off 54 (noDst_spec (p := upTo 7) (by kernel_rfl))
        have f55 : a.tmps.getD 55 undef = _ := hI.off 55 (noDst_spec (p := upTo 7) (by kernel_rfl))
        have f56 : a.tmps.getD 56 undef = _ := hI.off 56 (noDst_spec (p := upTo 7) (by kernel_rfl))
        have f57 : a.tmps.getD 57 undef = _ := hI.off 57 (noDst_spec (p := upTo 7) (by kernel_rfl))
        have f58 : a.tmps.getD 58 undef = _ := hI.off 58 (noDst_spec (p := upTo 7) (by kernel_rfl))
        have f59 : a.tmps.getD 59 undef = _ := hI.off 59 (noDst_spec (p := upTo 7) (by kernel_rfl))
        have f60 : a.tmps.getD 60 undef = _ := hI.off 60 (noDst_spec (p := upTo 7) (by kernel_rfl))
        have f61 : a.tmps.getD 61 undef = _ := hI.off 61 (noDst_spec (p := upTo 7) (by kernel_rfl))
        have f62 : a.tmps.getD 62 undef = _ := hI.off 62 (noDst_spec (p := upTo 7) (by kernel_rfl))
        have f63 : a.tmps.getD 63 undef = _ := hI.off 63 (noDst_spec (p := upTo 7) (by kernel_rfl))
        have f64 : a.tmps.getD 64 undef = _ := hI.off 64 (noDst_spec (p := upTo 7) (by kernel_rfl))
        have f65 : a.tmps.getD 65 undef = _ := hI.off 65 (noDst_spec (p := upTo 7) (by kernel_rfl))
        have f66 : a.tmps.getD 66 undef = _ := hI.off 66 (noDst_spec (p := upTo 7) (by kernel_rfl))
        have f67 : a.tmps.getD 67 undef = _ := hI.off 67 (noDst_spec (p := upTo 7) (by kernel_rfl))
        have f68 : a.tmps.getD 68 undef = _ := hI.off 68 (noDst_spec (p := upTo 7) (by kernel_rfl))
        have f69 : a.tmps.getD 69 undef = _ := hI.off 69 (noDst_spec (p := upTo 7) (by kernel_rfl))
        have f70 : a.tmps.getD 70 undef = _ := hI.off 70 (noDst_spec (p := upTo 7) (by kernel_rfl))
        have f71 : a.tmps.getD 71 undef = _ := hI.off 71 (noDst_spec (p := upTo 7) (by kernel_rfl))
        have f72 : a.tmps.getD 72 undef = _ := hI.off 72 (noDst_spec (p := upTo 7) (by kernel_rfl))
        have f73 : a.tmps.getD 73 undef = _ := hI.off 73 (noDst_spec (p := upTo 7) (by kernel_rfl))
        have f74 : a.tmps.getD 74 undef = _ := hI.off 74 (noDst_spec (p := upTo 7) (by kernel_rfl))
        have f75 : a.tmps.getD 75 undef = _ := hI.off 75 (noDst_spec (p := upTo 7) (by kernel_rfl))
        have f76 : a.tmps.getD 76 undef = _ := hI.off 76 (noDst_spec (p := upTo 7) (by kernel_rfl))
        have f77 : a.tmps.getD 77 undef = _ := hI.off 77 (noDst_spec (p := upTo 7) (by kernel_rfl))
        have f78 : a.tmps.getD 78 undef = _ := hI.off 78 (noDst_spec (p := upTo 7) (by kernel_rfl))
        have f79 : a.tmps.getD 79 undef = _ := hI.off 79 (noDst_spec (p := upTo 7) (by kernel_rfl))
        have f80 : a.tmps.getD 80 undef = _ := hI.off 80 (noDst_spec (p := upTo 7) (by kernel_rfl))
        have f81 : a.tmps.getD 81 undef = _ := hI.off 81 (noDst_spec (p := upTo 7) (by kernel_rfl))
        have f82 : a.tmps.getD 82 undef = _ := hI.off 82 (noDst_spec (p := upTo 7) (by kernel_rfl))
        have f83 : a.tmps.getD 83 undef = _ := hI.off 83 (noDst_spec (p := upTo 7) (by kernel_rfl))
        have f17 : a.tmps.getD 17 undef = (.pointer (some ⟨sp, 0, none⟩)) := hI.val 0 _ 17 rfl rfl rfl
        have f18 : a.tmps.getD 18 undef = .pointer (some ⟨sp, 0, none⟩) := hI.val 1 _ 18 rfl rfl rfl
        have f19 : a.tmps.getD 19 undef = .pointer (some ⟨sp, 0, none⟩) := hI.val 2 _ 19 rfl rfl rfl
        have f20 : a.tmps.getD 20 undef = .pointer (some ⟨p, 0, none⟩) := hI.val 3 _ 20 rfl rfl rfl
        have f21 : a.tmps.getD 21 undef = (.pointer (some ⟨sp, 0, none⟩)) := hI.val 4 _ 21 rfl rfl rfl
        have f22 : a.tmps.getD 22 undef = (.int .i64 (k : Int)) := hI.val 5 _ 22 rfl rfl rfl
        have g23 : (BSV C k) u (a.tmps.getD 23 undef) := hI.val 6 _ 23 rfl rfl rfl
        have ha : a = ⟨#[a.tmps.getD 0 undef, a.tmps.getD 1 undef, a.tmps.getD 2 undef, a.tmps.getD 3 undef, a.tmps.getD 4 undef, a.tmps.getD 5 undef, a.tmps.getD 6 undef, a.tmps.getD 7 undef, a.tmps.getD 8 undef, a.tmps.getD 9 undef, a.tmps.getD 10 undef, a.tmps.getD 11 undef, a.tmps.getD 12 undef, a.tmps.getD 13 undef, a.tmps.getD 14 undef, a.tmps.getD 15 undef, a.tmps.getD 16 undef, a.tmps.getD 17 undef, a.tmps.getD 18 undef, a.tmps.getD 19 undef, a.tmps.getD 20 undef, a.tmps.getD 21 undef, a.tmps.getD 22 undef, a.tmps.getD 23 undef, a.tmps.getD 24 undef, a.tmps.getD 25 undef, a.tmps.getD 26 undef, a.tmps.getD 27 undef, a.tmps.getD 28 undef, a.tmps.getD 29 undef, a.tmps.getD 30 undef, a.tmps.getD 31 undef, a.tmps.getD 32 undef, a.tmps.getD 33 undef, a.tmps.getD 34 undef, a.tmps.getD 35 undef, a.tmps.getD 36 undef, a.tmps.getD 37 undef, a.tmps.getD 38 undef, a.tmps.getD 39 undef, a.tmps.getD 40 undef, a.tmps.getD 41 undef, a.tmps.getD 42 undef, a.tmps.getD 43 undef, a.tmps.getD 44 undef, a.tmps.getD 45 undef, a.tmps.getD 46 undef, a.tmps.getD 47 undef, a.tmps.getD 48 undef, a.tmps.getD 49 undef, a.tmps.getD 50 undef, a.tmps.getD 51 undef, a.tmps.getD 52 undef, a.tmps.getD 53 undef, a.tmps.getD 54 undef, a.tmps.getD 55 undef, a.tmps.getD 56 undef, a.tmps.getD 57 undef, a.tmps.getD 58 undef, a.tmps.getD 59 undef, a.tmps.getD 60 undef, a.tmps.getD 61 undef, a.tmps.getD 62 undef, a.tmps.getD 63 undef, a.tmps.getD 64 undef, a.tmps.getD 65 undef, a.tmps.getD 66 undef, a.tmps.getD 67 undef, a.tmps.getD 68 undef, a.tmps.getD 69 undef, a.tmps.getD 70 undef, a.tmps.getD 71 undef, a.tmps.getD 72 undef, a.tmps.getD 73 undef, a.tmps.getD 74 undef, a.tmps.getD 75 undef, a.tmps.getD 76 undef, a.tmps.getD 77 undef, a.tmps.getD 78 undef, a.tmps.getD 79 undef, a.tmps.getD 80 undef, a.tmps.getD 81 undef, a.tmps.getD 82 undef, a.tmps.getD 83 undef], a.defers⟩ := act_list a 84 hsz
        rw [hdf, f0, f1, f2, f3, f4, f5, f6, f7, f8, f9, f10, f11, f12, f13, f14, f15, f16, f17, f18, f19, f20, f21, f22, f24, f25, f26, f27, f28, f29, f30, f31, f32, f33, f34, f35, f36, f37, f38, f39, f40, f41, f42, f43, f44, f45, f46, f47, f48, f49, f50, f51, f52, f53, f54, f55, f56, f57, f58, f59, f60, f61, f62, f63, f64, f65, f66, f67, f68, f69, f70, f71, f72, f73, f74, f75, f76, f77, f78, f79, f80, f81, f82, f83] at ha
        obtain ⟨x23, hx23⟩ : ∃ x, a.tmps.getD 23 undef = x := ⟨_, rfl⟩
        rw [hx23] at ha
        rw [hx23] at g23
        have hku := hI.kp
        clear hI hsz hdf f0 f1 f2 f3 f4 f5 f6 f7 f8 f9 f10 f11 f12 f13 f14 f15 f16 f17 f18 f19 f20 f21 f22 f24 f25 f26 f27 f28 f29 f30 f31 f32 f33 f34 f35 f36 f37 f38 f39 f40 f41 f42 f43 f44 f45 f46 f47 f48 f49 f50 f51 f52 f53 f54 f55 f56 f57 f58 f59 f60 f61 f62 f63 f64 f65 f66 f67 f68 f69 f70 f71 f72 f73 f74 f75 f76 f77 f78 f79 f80 f81 f82 f83 hx23
        subst ha
        refine wpAny_tail 7 rfl (by kernel_rfl) ?_
        simp only [List.drop_succ_cons, List.drop_zero]
        obtain ⟨sa, sc, rfl, hbs⟩ := g23
        have HKu := Lib.hid (HK.out.trans (hku.mono (T := fun j => j = g) (fun _ _ h => h.elim)) (fun _ _ h => h))
        have hst0 := HStt.out u HKu.out k sa sc hbs
        have HRu := Lib.hid (HRw.out.kp hku)
        have HOu := Lib.hid (HO.out.kp hku (fun _ _ h => h))
        clear hku hbs HRw HO HK hsp hsg
        simp only [Array.getD_eq_getD_getElem?, List.getElem?_toArray, List.getElem?_cons_zero, List.getElem?_cons_succ, Option.getD_some]
        cases hb : st k with
        | false =>
          rw [hb] at hst0
          have HStu := Lib.hid hst0
          clear hst0
          go_wp2_with (go_at_call 64; refine HStu.out.mono ?_; rintro e w2 ⟨rfl, hK2⟩; have HK2 := Lib.hid hK2; clear hK2)
          go_roundw
          case rel =>
            refine ⟨k + 1, L, by go_num, by omega, ?_, HOu.out.kp HK2.out (fun _ _ h => h), HNd.out, fun t => ?_, HKu.out.trans (HK2.out.mono (T := fun j => j = g) (fun _ _ h => h.elim)) (fun _ _ h => h)⟩
            · rw [firstR_skip hb]; exact HRu.out.kp HK2.out
            · rw [HMm.out]
              constructor
              · rintro ⟨h1, h2⟩; exact ⟨by omega, h2⟩
              · rintro ⟨h1, h2⟩
                refine ⟨?_, h2⟩
                apply Classical.byContradiction
                intro q
                rw [show t = k by omega, hb] at h2
                cases h2
          case measure => simp [intOf]; omega
        | true =>
          rw [hb] at hst0
          have HStu := Lib.hid hst0
          clear hst0
          go_upto_region 5 with (go_at_call 64; refine HStu.out.mono ?_; rintro e w2 ⟨rfl, hK2⟩; have HK2 := Lib.hid hK2; clear hK2)
          have HR2 := Lib.hid (HRu.out.kp HK2.out)
          have HK2w := Lib.hid (HKu.out.trans (HK2.out.mono (T := fun j => j = g) (fun _ _ h => h.elim)) (fun _ _ h => h))
          obtain ⟨d0, d1⟩ := HCs.out w2 HK2w.out
          have c2 := HR2.out.cell2 hlt
          have f2 := HR2.out.blk.free (k * 4 + 2)
          go_upto_region 6 with fail
          obtain ⟨w3, hw3⟩ : ∃ w3, w3 = w2.setCell ⟨g, k * 4 + 2, none⟩ (.int .i64 0) := ⟨_, rfl⟩
          rw [← hw3]
          have HK23 := Lib.hid (show Kp (fun j => j = g) w2 w3 by rw [hw3]; exact Kp.set w2 ⟨g, k * 4 + 2, none⟩ (.int .i64 0))
          have HR3 := Lib.hid (show RowsS w3 g n mb F BD (firstR st (k + 1)) D by rw [hw3, firstR_put hb]; exact HR2.out.setR hlt 0)
          have hgl := HLw.out.1
          have HO3 := Lib.hid ((HOu.out.kp HK2.out (fun _ _ h => h)).kp HK23.out (fun j hj e => by have := HOu.out.lt j hj; omega))
          have hsz2 := HK2w.out.size
          have hsz3 := HK23.out.size
          have hll : L.length ≤ k := nodup_le k HNd.out (fun t ht => ((HMm.out t).1 ht).1)
          clear hw3 c2 f2 d0 d1
          go_wp2_with (at_builtin; refine wpList_append1 rfl _ _ 22 3 rfl Tryz.underlying22 HI.out rfl (HO3.out.alloc _) rfl ⟨w3.heap.size, 0, none⟩ (.int .i64 (k : Int)) rfl ?c1 rfl ?c2 ?c3 ?c4 ?_)
          case c1 => exact World.cell?_alloc_at _ _ _ _ rfl
          case c2 => rw [nv_length]; omega
          case c3 => rw [nv_length]; unfold maxLen; omega
          case c4 => simp; omega
          intro v' w4 hO4 hg4
          rw [← nv_snoc] at hO4
          have hv := fun j hj => (HO3.out.lt j hj).1
          have hK34 : Kp (fun j => w.heap.size ≤ j) w3 w4 := ((Kp.refl _ w3).alloc _).grown hg4 (fun j hj _ => hv j hj)
          have hR4 := HR3.out.kpL HLw.out hK34
          have hK4 : Kp (fun j => j = g) w w4 := ((HK2w.out.trans HK23.out (fun _ _ h => h)).trans hK34 (fun j h1 h2 => by omega))
          have HO4 := Lib.hid hO4
          have HR4 := Lib.hid hR4
          have HK4 := Lib.hid hK4
          clear hO4 hg4 hv hK34 hR4 hK4 hgl hsz2 hsz3
          go_wp2_with fail
          go_roundw
          case rel =>
            refine ⟨k + 1, L ++ [k], by go_num, by omega, HR4.out, HO4.out, ?_, fun t => ?_, HK4.out⟩
            · rw [List.nodup_append]
              refine ⟨HNd.out, by simp, fun a ha b hb => ?_⟩
              simp at hb
              subst hb
              have := ((HMm.out a).1 ha).1
              omega
            · rw [List.mem_append, HMm.out]
              constructor
              · rintro (⟨h1, h2⟩ | h1)
                · exact ⟨by omega, h2⟩
                · simp at h1; subst h1; exact ⟨by omega, hb⟩
              · rintro ⟨h1, h2⟩
                by_cases e : t = k
                · exact .inr (by simp [e])
                · exact .inl ⟨by omega, h2⟩
          case measure => simp [intOf]; omega
    · obtain hk' : k = n := by omega
      subst hk'
      clear hsp hsg HStt HSta hk
      have k1 : ¬ (k : Int) < (k : Int) := by omega
      go_wp2_with fail
      go_loopw [2, 4] (fun v2 v4 wr => ∃ (m : Nat) (L : List Nat) (R : Nat → Int), v4 = .int .i64 ((m : Int) + 1) ∧ m ≤ k ∧ RowsS wr g k mb F BD R D ∧ (∀ t, t < k → R t = distG k st E m t) ∧ Own wr w.heap.size 3 v2 (nv L) ∧ L.Nodup ∧ (∀ t, t ∈ L ↔ t < k ∧ distG k st E m t = (m : Int)) ∧ (∀ j, j < m → ∃ t, t < k ∧ distG k st E m t = (j : Int)) ∧ Kp (fun j => j = g) w wr) (fun _ v4 _ => k + 2 - (intOf v4).toNat)
      case atStart =>
        refine ⟨0, L, firstR st k, rfl, Nat.zero_le _, HRw.out, fun t ht => firstR_dist ht, HO.out, HNd.out, fun t => ?_, fun j hj => absurd hj (Nat.not_lt_zero j), HK.out⟩
        rw [HMm.out]
        refine and_congr_right fun ht => ?_
        rw [← firstR_dist ht]
        unfold firstR
        by_cases e : st t = true
        · rw [if_pos ⟨ht, e⟩]; simp [e]
        · rw [if_neg (fun q => e q.2)]
          exact ⟨fun q => absurd q e, fun q => by simp at q⟩
      case round =>
        clear HRw HO HNd HMm HK
        obtain ⟨m, L, R, rfl, hm, hRw, hRd, hO, hnd, hmem, hlay, hK⟩ := hrel
        obtain ⟨a2, c2, rfl, -⟩ := hO.form
        rw [nv_length]
        rw [nv_length] at hO
        have HRw := Lib.hid hRw
        have HO := Lib.hid hO
        have HNd := Lib.hid hnd
        have HMm := Lib.hid hmem
        have HLay := Lib.hid hlay
        have HRd := Lib.hid hRd
        have HK := Lib.hid hK
        have hLk : L.length ≤ k := nodup_le k hnd (fun t ht => ((hmem t).1 ht).1)
        clear hRw hO hnd hmem hlay hRd hK
        obtain ⟨wp, rfl⟩ : ∃ wp : World, wp = wr := ⟨_, rfl⟩
        by_cases hL : 0 < L.length
        · have hL1 : (0 : Int) < (L.length : Int) := by omega
          obtain ⟨g2, cap, eg, hg2, hg2'⟩ := HO.out.leads (by rw [nv_length]; exact hL)
          simp only [Value.slice.injEq] at eg
          obtain ⟨rfl, -, rfl⟩ := eg
          have hmk : m < k := layers_cnt (m := m) (fun j hj => by
            by_cases e : j = m
            · subst e; exact ⟨gn L 0, (HMm.out _).1 (gn_mem hL)⟩
            · exact HLay.out j (by omega))
          have HLo := Lib.hid (show LowR wp.heap.size g k mb from HRw.out.lowR)
          have HWs := Lib.hid (show w.heap.size ≤ wp.heap.size from HK.out.size)
          go_wp2_with fail
          go_loopw [5, 44] (fun v5 v44 w3 => ∃ (i : Nat) (N : List Nat) (R : Nat → Int), v44 = .int .i64 (i : Int) ∧ i ≤ L.length ∧ RowsS w3 g k mb F BD R D ∧ MidG k st E m (fun t => ∃ j, j < i ∧ E (gn L j) t = true) R N ∧ Own w3 w.heap.size 3 (.slice (some ⟨g2, 0, none⟩) L.length c2) (nv L) ∧ Own w3 wp.heap.size 3 v5 (nv N) ∧ Kp (fun j => j = g) w w3 ∧ wp.heap.size ≤ w3.heap.size) (fun _ v44 _ => L.length - (intOf v44).toNat)
          case atStart => exact ⟨0, [], R, rfl, Nat.zero_le _, HRw.out, (MidG.start HRd.out).congr (fun t _ => ⟨fun h => h.elim, fun ⟨j, hj, _⟩ => absurd hj (Nat.not_lt_zero j)⟩), HO.out, Own.nil _ _ _, HK.out, Nat.le_refl _⟩
          case round =>
            clear HRw HO HK HRd
            obtain ⟨i, N, R, rfl, hi, hRw, hMid, hO, hO5, hK, hsz⟩ := hrel
            have HRw := Lib.hid hRw
            have HMid := Lib.hid hMid
            have HO := Lib.hid hO
            have HO5 := Lib.hid hO5
            have HK := Lib.hid hK
            have HSz := Lib.hid hsz
            clear hRw hMid hO hO5 hK hsz
            obtain ⟨w3, rfl⟩ : ∃ w3 : World, w3 = wr := ⟨_, rfl⟩
            by_cases hiL : i < L.length
            · have i0 : (0 : Int) ≤ (i : Int) := by omega
              have i1 : (i : Int) < (L.length : Int) := by omega
              obtain ⟨s, hs⟩ : ∃ s, gn L i = s := ⟨_, rfl⟩
              have cl := HO.out.cell (nv_at hiL)
              rw [hs] at cl
              have hsm := (HMm.out s).1 (hs ▸ gn_mem hiL)
              have hsk := hsm.1
              have HSm := Lib.hid hsm
              have HS := Lib.hid hs
              clear hsm hs
              have s0 : (0 : Int) ≤ (s : Int) := by omega
              have s1 : (s : Int) < (k : Int) := by omega
              obtain ⟨d0, d1⟩ := HCs.out w3 HK.out
              have c0 := HRw.out.cell0 hsk
              have HMap := Lib.hid (HRw.out.map s hsk)
              obtain ⟨q, hMq, hq⟩ := HMap.out
              have HMq := Lib.hid hMq
              clear hMq HMap
              go_wp2_with (at_range; refine wpList_rangeI rfl (.tmp 55) rfl rfl HMq.out ?_; intro w4 cnt0 hrg hk4 hs4; go_frame)
              have HK4 := Lib.hid (HK.out.trans (hk4.mono (T := fun j => j = g) (fun _ _ h => h.elim)) (fun _ _ h => h))
              have HR4 := Lib.hid (HRw.out.kp hk4)
              have HO4 := Lib.hid (HO.out.kp hk4 (fun _ _ h => h))
              have HN4 := Lib.hid (HO5.out.kp hk4 (fun _ _ h => h))
              have HSz4 := Lib.hid (show wp.heap.size ≤ w4.heap.size by have := HSz.out; omega)
              have hne4 : ∀ j, u5.ownBlock = some j → j ≠ w3.heap.size := fun j hj e => by have := HO5.out.lt j hj; omega
              have HNe := Lib.hid hne4
              obtain ⟨r, hr⟩ : ∃ r, w3.heap.size = r := ⟨_, rfl⟩
              have HRr := Lib.hid (show wp.heap.size ≤ r by have := HSz.out; omega)
              rw [hr] at hrg HNe ⊢
              have HRg := Lib.hid hrg
              clear hrg hk4 hs4 hne4 hr HRw HO HO5 HK HSz d0 d1 c0 cl HMq
              go_loopw [5] (fun v5 w5 => ∃ (N : List Nat) (R : Nat → Int) (left : Int → Prop) (cnt : Nat), RGI w5 (mb s) r q (F s) left cnt ∧ RowsS w5 g k mb F BD R D ∧ MidG k st E m (fun t => (∃ j, j < i ∧ E (gn L j) t = true) ∨ (E s t = true ∧ ¬ left (t : Int))) R N ∧ Own w5 w.heap.size 3 (.slice (some ⟨g2, 0, none⟩) L.length c2) (nv L) ∧ Own w5 wp.heap.size 3 v5 (nv N) ∧ (∀ j, v5.ownBlock = some j → j ≠ r) ∧ Kp (fun j => j = g) w w5 ∧ wp.heap.size ≤ w5.heap.size) (fun _ w5 => w5.rangeLeft (mb s) r)
              case atStart =>
                exact ⟨N, R, _, cnt0, HRg.out, HR4.out, HMid.out.congr (fun t ht => ⟨fun h => .inl h, fun h => h.resolve_right (fun ⟨h1, h2⟩ => h2 (by show (F s t).isSome = true; rw [HE.out]; exact h1))⟩), HO4.out, HN4.out, HNe.out, HK4.out, HSz4.out⟩
              case round =>
                clear HRg HR4 HMid HO4 HN4 HNe HK4 HSz4
                obtain ⟨N, R, left, cnt, hrg, hRw, hMid, hO, hO5, hne, hK, hsz⟩ := hrel
                have HRg := Lib.hid hrg
                have HRw := Lib.hid hRw
                have HMid := Lib.hid hMid
                have HO := Lib.hid hO
                have HO5 := Lib.hid hO5
                have HNe := Lib.hid hne
                have HK := Lib.hid hK
                have HSz := Lib.hid hsz
                clear hrg hRw hMid hO hO5 hne hK hsz
                obtain ⟨w5, rfl⟩ : ∃ w5 : World, w5 = wr := ⟨_, rfl⟩
                go_wp2_with (first
                  | (at_next; refine wpList_nextI rfl (.tmp 56) rfl rfl HRg.out ?_ ?_)
                  | go_in)
                · intro hdone
                  go_wp2_with fail
                  go_roundw
                  case rel =>
                    refine ⟨i + 1, N, R, by go_num, by omega, HRw.out, HMid.out.congr fun t ht => ?_, HO.out, HO5.out, HK.out, HSz.out⟩
                    have hl : ¬ left (t : Int) := hdone t (by unfold okInt; omega)
                    constructor
                    · rintro (⟨j, h1, h2⟩ | ⟨h1, -⟩)
                      · exact ⟨j, by omega, h2⟩
                      · exact ⟨i, by omega, by rw [HS.out]; exact h1⟩
                    · rintro ⟨j, h1, h2⟩
                      by_cases e : j = i
                      · subst e; rw [HS.out] at h2; exact .inr ⟨h2, hl⟩
                      · exact .inl ⟨j, by omega, h2⟩
                  case measure => simp [intOf]; omega
                · intro x c w6 cnt1 okx hlx hF hR1 hlt1 hk1 hs1 hen
                  obtain ⟨v, rfl, hv⟩ := HF.out s hsk x c hF
                  have v0 : (0 : Int) ≤ (v : Int) := by omega
                  have v1 : (v : Int) < (k : Int) := by omega
                  have hrL := HLo.out
                  have hrg0 := HRr.out
                  have hsz0 := HSz.out
                  have hws0 := HWs.out
                  have hk1' : Kp (fun j => wp.heap.size ≤ j) w5 w6 := hk1.mono (fun j _ e => by subst e; exact hrg0)
                  have HR6 := Lib.hid (HRw.out.kpL hrL hk1')
                  have HO6 := Lib.hid (HO.out.kp hk1 (fun j hj e => by simp [Value.ownBlock] at hj; omega))
                  have HN6 := Lib.hid (HO5.out.kp hk1 (fun j hj e => HNe.out j hj e))
                  have HK6 := Lib.hid (HK.out.trans hk1 (fun j h1 e => by omega))
                  have HEv := Lib.hid (show E s v = true by rw [← HE.out, hF]; rfl)
                  have HR1 := Lib.hid hR1
                  have e2 := HR6.out.cell2 hv
                  have f2 := HR6.out.blk.free (v * 4 + 2)
                  obtain ⟨d0, d1⟩ := HCs.out w6 HK6.out
                  obtain ⟨rv, hrv⟩ : ∃ rv, R v = rv := ⟨_, rfl⟩
                  rw [hrv] at e2
                  have HLt := Lib.hid hlt1
                  clear hF hR1 hk1 hk1' hlt1 hrL
                  have hQ : ∀ t, t < k → ((((∃ j, j < i ∧ E (gn L j) t = true) ∨ (E s t = true ∧ ¬ left (t : Int))) ∨ t = v) ↔ ((∃ j, j < i ∧ E (gn L j) t = true) ∨ (E s t = true ∧ ¬ (left (t : Int) ∧ (t : Int) ≠ (v : Int))))) := fun t ht => by
                    constructor
                    · rintro ((h | ⟨h1, h2⟩) | rfl)
                      · exact .inl h
                      · exact .inr ⟨h1, fun q => h2 q.1⟩
                      · exact .inr ⟨HEv.out, fun q => q.2 rfl⟩
                    · rintro (h | ⟨h1, h2⟩)
                      · exact .inl (.inl h)
                      · by_cases e : t = v
                        · exact .inr e
                        · exact .inl (.inr ⟨h1, fun q => h2 ⟨q, by omega⟩⟩)
                  have HQ := Lib.hid hQ
                  clear hQ
                  by_cases hr1 : rv = -1
                  · subst hr1
                    go_upto_region 20 with fail
                    obtain ⟨w7, hw7⟩ : ∃ w7, w7 = w6.setCell ⟨g, v * 4 + 2, none⟩ (.int .i64 ((m : Int) + 1)) := ⟨_, rfl⟩
                    rw [← hw7]
                    have hK67 : Kp (fun j => j = g) w6 w7 := by rw [hw7]; exact Kp.set w6 ⟨g, v * 4 + 2, none⟩ (.int .i64 ((m : Int) + 1))
                    have HR7 := Lib.hid (show RowsS w7 g k mb F BD (upI R v ((m : Int) + 1)) D by rw [hw7]; exact HR6.out.setR hv _)
                    have hlg := HLo.out
                    have hlw := HLw.out.1
                    have HO7 := Lib.hid (HO6.out.kp hK67 (fun j hj e => by simp [Value.ownBlock] at hj; omega))
                    have HN7 := Lib.hid (HN6.out.kp hK67 (fun j hj e => by have := HN6.out.lt j hj; omega))
                    have HG7 := Lib.hid (HR1.out.kp hK67 (fun e => HR6.out.ne s hsk e) (fun e => by omega))
                    have HK7 := Lib.hid (HK6.out.trans hK67 (fun _ _ h => h))
                    have hsz7 := hK67.size
                    have HM7 := Lib.hid ((HMid.out.put hv hrv).congr HQ.out)
                    have hNl : N.length ≤ k := nodup_le k HMid.out.nd (fun t ht => ((HMid.out.mem t).1 ht).1)
                    clear hw7 hK67 e2 f2 d0 d1
                    go_wp2_with (at_builtin; refine wpList_append1_at rfl _ _ 22 3 rfl Tryz.underlying22 HI.out rfl (HN7.out.alloc _) rfl ⟨w7.heap.size, 0, none⟩ (.int .i64 (v : Int)) rfl ?c1 rfl ?c2 ?c3 ?c4 ?_)
                    case c1 => exact World.cell?_alloc_at _ _ _ _ rfl
                    case c2 => rw [nv_length]; omega
                    case c3 => rw [nv_length]; unfold maxLen; omega
                    case c4 => simp; omega
                    intro v' w8 hO8 hg8 hat8
                    rw [← nv_snoc] at hO8
                    have hv8 := fun j hj => (HN7.out.lt j hj).1
                    have hK78 : Kp (fun j => wp.heap.size ≤ j) w7 w8 := ((Kp.refl _ w7).alloc _).grown hg8 (fun j hj _ => hv8 j hj)
                    have hK78r : Kp (fun j => u5.ownBlock = some j) w7 w8 := ((Kp.refl _ w7).alloc _).grown hg8 (fun j hj _ => hj)
                    have HR8 := Lib.hid (HR7.out.kpL HLo.out hK78)
                    have HK8 := Lib.hid (show Kp (fun j => j = g) w w8 from HK7.out.trans hK78 (fun j h1 h2 => by omega))
                    have HO8 := Lib.hid (HO7.out.kp hK78 (fun j hj e => by simp [Value.ownBlock] at hj; omega))
                    have HG8 := Lib.hid (HG7.out.kp hK78r (fun e => by have := hv8 _ e; have := HLo.out.2 s hsk; omega) (fun e => HNe.out _ e rfl))
                    have HN8 := Lib.hid hO8
                    have hsz8 := hK78.size
                    have hlr := HR1.out.lt
                    have HNe8 := Lib.hid (show ∀ j, v'.ownBlock = some j → j ≠ r from fun j hj => by
                      rcases hat8 with e | e
                      · rw [e] at hj; exact HNe.out j hj
                      · rw [e] at hj
                        simp at hj
                        omega)
                    clear hO8 hg8 hat8 hv8 hK78 hK78r
                    go_wp2_with fail
                    go_roundw
                    case rel =>
                      exact ⟨N ++ [v], _, _, cnt1, HG8.out, HR8.out, HM7.out, HO8.out, HN8.out, HNe8.out, HK8.out, by omega⟩
                    case measure => rw [HG8.out.left_eq, HRg.out.left_eq]; exact HLt.out
                  · go_wp2_with fail
                    go_roundw
                    case rel =>
                      exact ⟨N, R, _, cnt1, HR1.out, HR6.out, (HMid.out.skip hv (by rw [hrv]; exact hr1)).congr HQ.out, HO6.out, HN6.out, HNe.out, HK6.out, by omega⟩
                    case measure => rw [HR1.out.left_eq, HRg.out.left_eq]; exact HLt.out
            · have i1 : ¬ (i : Int) < (L.length : Int) := by omega
              obtain hie : i = L.length := by omega
              subst hie
              obtain ⟨a5, c5, rfl, -⟩ := HO5.out.form
              rw [nv_length]
              have HO5 := Lib.hid (nv_length N ▸ HO5.out)
              go_wp2_with fail
              go_roundw
              case rel =>
                have hfin := (HMid.out.congr (Q' := fun t => ∃ s, s < k ∧ distG k st E m s = m ∧ E s t = true) fun t ht => by
                  constructor
                  · rintro ⟨j, hj, he⟩
                    have := (HMm.out (gn L j)).1 (gn_mem hj)
                    exact ⟨_, this.1, this.2, he⟩
                  · rintro ⟨s, h1, h2, h3⟩
                    obtain ⟨j, hj, e⟩ := List.mem_iff_getElem.1 ((HMm.out s).2 ⟨h1, h2⟩)
                    refine ⟨j, hj, ?_⟩
                    rw [show gn L j = s by unfold gn; rw [List.getElem?_eq_getElem hj, e]; rfl]
                    exact h3).fin
                refine ⟨m + 1, N, R, by go_num, by omega, HRw.out, hfin.1, HO5.out.mono (by have := HWs.out; omega), HMid.out.nd, fun t => by rw [hfin.2 t], fun j hj => ?_, HK.out⟩
                by_cases e : j = m
                · subst e
                  have := (HMm.out (gn L 0)).1 (gn_mem hL)
                  exact ⟨gn L 0, this.1, by rw [distG_keep (by rw [this.2]; omega), this.2]⟩
                · obtain ⟨t, h1, h2⟩ := HLay.out j (by omega)
                  exact ⟨t, h1, by rw [distG_keep (by rw [h2]; omega), h2]⟩
              case measure => simp [intOf]; omega
        · have hL1 : ¬ (0 : Int) < (L.length : Int) := by omega
          go_wp2_with fail
          go_end0
          refine ⟨rfl, HRw.out.congrR fun t ht => ?_, HK.out⟩
          rw [HRd.out t ht]
          have := distG_still (n := k) (st := st) (E := E) (m := m) (fun t ht e => hL (List.length_pos_of_mem ((HMm.out t).2 ⟨ht, e⟩))) (k - m) t
          rw [← this, show m + (k - m) = k by omega]

end Go.Proofs.YtnoknecfdnjomaaGreat

/-
  A row of rows of ints of the call's own, each of which may grow.
-/
namespace Go.Proofs.YtnoknecfdnjomaaGreat
open Go.RowKit

/-- block g holds m rows: row k lies at R k and reads A k -/
structure RowsM (w : World) (lo g m : Nat) (R : Nat → Value) (A : Nat → List Int) : Prop where
  blk : Blk w g (rowF R m).toArray 22
  ow : ∀ k, k < m → Own w lo 3 (R k) (iv (A k))
  lo : lo ≤ g
  ne : ∀ k, k < m → ∀ j, (R k).ownBlock = some j → j ≠ g
  dis : ∀ k k', k < m → k' < m → k ≠ k' → ∀ j, (R k).ownBlock = some j → (R k').ownBlock ≠ some j

section
variable {w w' : World} {lo g m : Nat} {R : Nat → Value} {A : Nat → List Int}

theorem RowsM.kpS {S : Nat → Prop} (h : RowsM w lo g m R A) (k : Kp S w w') (hS : ∀ j, S j → j < lo ∨ w.heap.size ≤ j) : RowsM w' lo g m R A :=
  ⟨h.blk.kp k (fun q => by have := h.blk.lt; have := h.lo; rcases hS _ q with e | e <;> omega), fun i hi => (h.ow i hi).kp k (fun j hj q => by have := (h.ow i hi).lt j hj; rcases hS _ q with e | e <;> omega), h.lo, h.ne, h.dis⟩
theorem RowsM.kp (h : RowsM w lo g m R A) (k : Kp (fun _ => False) w w') : RowsM w' lo g m R A := h.kpS k (fun _ h => h.elim)

theorem RowsM.congr {A' : Nat → List Int} (h : RowsM w lo g m R A) (e : ∀ k, k < m → A k = A' k) : RowsM w lo g m R A' :=
  ⟨h.blk, fun k hk => by rw [← e k hk]; exact h.ow k hk, h.lo, h.ne, h.dis⟩

theorem RowsM.cell (h : RowsM w lo g m R A) {k : Nat} (hk : k < m) : w.cell? ⟨g, k, none⟩ = some (R k) :=
  h.blk.cell (by have := rowF_at (f := R) hk; simpa using this)

theorem RowsM.push {w1 w2 : World} {v' : Value} {k : Nat} {x : Int} (h : RowsM w lo g m R A) (hk : k < m) (hK : Kp (fun _ => False) w w1)
    (hO : Own w2 lo 3 v' (iv (A k) ++ [.int .i64 x])) (hg : w1.grownBy w2 (R k).ownBlock) (hat : v'.ownBlock = (R k).ownBlock ∨ v'.ownBlock = some w1.heap.size) :
    RowsM (w2.setCell ⟨g, k, none⟩ v') lo g m (up1 R k v') (up1 A k (A k ++ [x])) ∧ Kp (fun j => j = g ∨ (R k).ownBlock = some j) w (w2.setCell ⟨g, k, none⟩ v') := by
  have H1 := h.kp hK
  have hKg : Kp (fun j => (R k).ownBlock = some j) w1 w2 := (Kp.refl _ w1).grown hg (fun j hj _ => hj)
  have hKs : Kp (fun j => j = g) w2 (w2.setCell ⟨g, k, none⟩ v') := Kp.set w2 ⟨g, k, none⟩ _
  have hKK : Kp (fun j => j = g ∨ (R k).ownBlock = some j) w1 (w2.setCell ⟨g, k, none⟩ v') := (hKg.mono (fun _ _ h => .inr h)).trans hKs (fun _ _ h => .inl h)
  have hgl := H1.blk.lt
  have hRlt : ∀ i, i < m → ∀ j, (R i).ownBlock = some j → j < w1.heap.size := fun i hi j hj => ((H1.ow i hi).lt j hj).2
  have hne : ∀ j, v'.ownBlock = some j → j ≠ g ∧ ∀ i, i < m → i ≠ k → (R i).ownBlock ≠ some j := fun j hj => by
    rcases hat with e | e
    · rw [e] at hj
      exact ⟨h.ne k hk j hj, fun i hi hn => h.dis k i hk hi (fun q => hn q.symm) j hj⟩
    · rw [e] at hj
      have e2 : w1.heap.size = j := by simpa using hj
      exact ⟨by omega, fun i hi _ q => by have := hRlt i hi j q; omega⟩
  refine ⟨⟨?_, fun i hi => ?_, h.lo, fun i hi j hj => ?_, fun a b ha hb hab j hj => ?_⟩, ?_⟩
  · have hB : Blk w2 g (rowF R m).toArray 22 := H1.blk.kp hKg (fun e => h.ne k hk _ e rfl)
    have := hB.set_same k v'
    have e : (rowF R m).toArray.setIfInBounds k v' = ((rowF R m).set k v').toArray := by simp
    rw [e, rowF_set] at this
    exact this
  · by_cases e : i = k
    · subst e
      rw [up1_at, up1_at, show iv (A i ++ [x]) = iv (A i) ++ [.int .i64 x] by simp [iv]]
      exact hO.kp hKs (fun j hj e => (hne j hj).1 e)
    · rw [up1_off _ _ e, up1_off _ _ e]
      refine (H1.ow i hi).kp hKK (fun j hj q => ?_)
      rcases q with q | q
      · exact h.ne i hi j hj q
      · exact h.dis i k hi hk e j hj q
  · by_cases e : i = k
    · subst e
      rw [up1_at] at hj
      exact (hne j hj).1
    · rw [up1_off _ _ e] at hj
      exact h.ne i hi j hj
  · by_cases e : a = k
    · subst e
      rw [up1_at] at hj
      rw [up1_off _ _ (fun q => hab q.symm)]
      exact (hne j hj).2 b hb (fun q => hab q.symm)
    · rw [up1_off _ _ e] at hj
      by_cases e2 : b = k
      · subst e2
        rw [up1_at]
        intro q
        exact (hne j q).2 a ha e hj
      · rw [up1_off _ _ e2]
        exact h.dis a b ha hb hab j hj
  · exact (hK.mono (fun _ _ h => h.elim)).trans hKK (fun _ _ h => h)

end

end Go.Proofs.YtnoknecfdnjomaaGreat

/-
  explore: backwards.
-/
namespace Go.Proofs.YtnoknecfdnjomaaGreat
open Go.RowKit

/-- those of the first k states behind which t is -/
def ahN (E : Nat → Nat → Bool) (k t : Nat) : List Nat := (List.range k).filter (fun s => E s t)
def ahV (l : List Nat) : List Int := l.map (fun (s : Nat) => (s : Int))
theorem ahV_iv (l : List Nat) : iv (ahV l) = nv l := by simp [iv, nv, ahV]
theorem ahV_snoc (l : List Nat) (s : Nat) : ahV (l ++ [s]) = ahV l ++ [(s : Int)] := by simp [ahV]
theorem ahN_put {E : Nat → Nat → Bool} {k t : Nat} (h : E k t = true) : ahN E (k + 1) t = ahN E k t ++ [k] := by
  unfold ahN; rw [List.range_succ, List.filter_append]; simp [h]
theorem ahN_skip {E : Nat → Nat → Bool} {k t : Nat} (h : E k t = false) : ahN E (k + 1) t = ahN E k t := by
  unfold ahN; rw [List.range_succ, List.filter_append]; simp [h]
theorem ahN_mem {E : Nat → Nat → Bool} {k t s : Nat} : s ∈ ahN E k t ↔ s < k ∧ E s t = true := by
  unfold ahN; rw [List.mem_filter, List.mem_range]
theorem ahN_len {E : Nat → Nat → Bool} {k t : Nat} : (ahN E k t).length ≤ k := by
  have := List.length_filter_le (fun s => E s t) (List.range k)
  rw [List.length_range] at this
  exact this
theorem RowsS.congrD {w : World} {g n : Nat} {mb : Nat → Nat} {F : Nat → Int → Option Int} {BD R D D' : Nat → Int} (h : RowsS w g n mb F BD R D) (e : ∀ t, t < n → D t = D' t) : RowsS w g n mb F BD R D' := by
  refine ⟨?_, h.map, h.ne⟩
  have := h.blk
  rw [rowC_congr (h' := rowH mb BD R D') fun i hi => by
    unfold rowH rowV
    rw [e (i / 4) (by omega)]] at this
  exact this
theorem RowsM.kpO {w w' : World} {lo g m : Nat} {R : Nat → Value} {A : Nat → List Int} {S : Nat → Prop} (h : RowsM w lo g m R A) (k : Kp S w w') (hg : ¬ S g) (hS : ∀ t, t < m → ∀ j, (R t).ownBlock = some j → ¬ S j) : RowsM w' lo g m R A :=
  ⟨h.blk.kp k hg, fun i hi => (h.ow i hi).kp k (hS i hi), h.lo, h.ne, h.dis⟩

set_option maxRecDepth 100000 in
set_option maxHeartbeats 8000000 in
theorem ex_backwards {sp g n cg : Nat} {w : World} {mb : Nat → Nat} {F : Nat → Int → Option Int} {BD Rc : Nat → Int} (hn9 : n ≤ 1024) (hn1 : 0 < n)
    (hs1 : w.cell? ⟨sp, 1, none⟩ = some (.slice (some ⟨g, 0, none⟩) n cg)) (hR : RowsS w g n mb F BD Rc (fun _ => -1)) (hF : ∀ t, t < n → ∀ u i, F t u = some i → ∃ v : Nat, u = (v : Int) ∧ v < n) (hgs : g ≠ sp) :
    Calls Tryz.prog 38 #[.pointer (some ⟨sp, 0, none⟩)] w fun e w' => e = .returned (.tuple #[]) ∧ RowsS w' g n mb F BD Rc (distG n (fun t => decide (BD t ≠ -1)) (revG (fun s t => (F s (t : Int)).isSome)) n) ∧ Kp (fun j => j = g) w w' := by
  obtain ⟨i0, hi, hz0, hz1, hz2⟩ := info_parts (show (Tryz.prog.info? 22).map (fun i => (i.zero, i.size, i.bytes)) = some (some (.slice none 0 0), 1, 24) by kernel_rfl)
  have hmk : ∀ u : World, (Instr.makeSlice 39 (.int .i64 (n : Int)) (.int .i64 (n : Int))).run Tryz.prog u =
      .ok (.slice (some ⟨u.heap.size, 0, none⟩) n n) (u.alloc (.cells (madeCells #[.slice none 0 0] n) 22)) := fun u => by
    have h := run_make (P := Tryz.prog) u 39 22 i0 (.slice none 0 0) Tryz.underlying39 hi hz0 .i64 .i64 (n : Int) (n : Int) (by omega) (Int.le_refl _) (by rw [hz2]; omega) (by omega)
    simpa [hz1, Value.cells] using h
  clear hi hz0 hz1 hz2 i0
  have HI := Lib.hid (show (Tryz.prog.info? 3).map (fun i => (i.zero, i.size, i.bytes)) = some (some (.int .i64 0), 1, 8) by kernel_rfl)
  obtain ⟨st, hst⟩ : ∃ st : Nat → Bool, (fun t => decide (BD t ≠ -1)) = st := ⟨_, rfl⟩
  have HSt := Lib.hid (fun t => congrFun hst t)
  rw [hst]
  clear hst
  obtain ⟨E, hE⟩ : ∃ E : Nat → Nat → Bool, (fun s (t : Nat) => (F s (t : Int)).isSome) = E := ⟨_, rfl⟩
  rw [hE]
  have HE := Lib.hid (fun s t => congrFun (congrFun hE s) t)
  clear hE
  obtain ⟨E2, hE2⟩ : ∃ E2, E2 = revG E := ⟨_, rfl⟩
  have HE2 := Lib.hid (show ∀ s t, E2 s t = E t s by rw [hE2]; intro s t; rfl)
  rw [← hE2]
  clear hE2
  have HR0 : Hid (RowsS w g n mb F BD Rc (firstR st 0)) := Lib.hid (by
    have e : firstR st 0 = fun _ => -1 := by funext t; unfold firstR; rw [if_neg (fun h => absurd h.1 (Nat.not_lt_zero t))]
    rw [e]; exact hR)
  have HCs := Lib.hid (fun (u : World) (hu : Kp (fun j => j = g) w u) => show u.cell? ⟨sp, 1, none⟩ = some (.slice (some ⟨g, 0, none⟩) n cg) from
    (World.cell?_of_block (w := w) (w' := u) (a := ⟨sp, 1, none⟩) (hu.block sp (World.block_lt_of_cell? w _ hs1) (fun e => hgs e.symm))).trans hs1)
  have HF := Lib.hid hF
  have HLw := Lib.hid hR.lowR
  obtain ⟨wz, hwz⟩ : ∃ wz : World, wz = w.alloc (.cells (madeCells #[.slice none 0 0] n) 22) := ⟨_, rfl⟩
  have HK0 := Lib.hid (show Kp (fun _ => False) w wz by rw [hwz]; exact (Kp.refl _ w).alloc _)
  have HM0 := Lib.hid (show RowsM wz w.heap.size w.heap.size n (fun _ => .slice none 0 0) (fun t => ahV (ahN E 0 t)) from
    ⟨by rw [hwz, ← made_row]; exact Blk.new w _ _, fun k hk => Own.nil _ _ _, Nat.le_refl _, fun k hk j hj => (by cases hj), fun k k' h1 h2 h3 j hj => (by cases hj)⟩)
  have HZ := Lib.hid hwz
  have HMk := Lib.hid hmk
  have hs1' := hs1
  have hmk' := hmk w
  clear hR hF hgs hmk hwz hs1
  obtain ⟨ga, hga⟩ : ∃ ga, w.heap.size = ga := ⟨_, rfl⟩
  rw [hga] at HM0 HLw hmk'
  have HGa := Lib.hid hga
  clear hga
  go_enter Tryz.func38, Tryz.ntmps38
  go_upto_region 1 with fail
  rw [← HZ.out]
  clear HZ hmk' hs1' HMk
  have HKz := Lib.hid (show Kp (fun j => j = g) w wz from HK0.out.mono (fun _ _ h => h.elim))
  have d1 := HCs.out wz HKz.out
  have HSz0 := Lib.hid (show ga + 1 ≤ wz.heap.size by have := HM0.out.blk.lt; omega)
  go_wp2_with fail
  go_loopw [3, 24] (fun v3 v24 wr => ∃ (k : Nat) (L : List Nat) (R : Nat → Value), v24 = .int .i64 (k : Int) ∧ k ≤ n ∧ RowsM wr ga ga n R (fun t => ahV (ahN E k t)) ∧ RowsS wr g n mb F BD Rc (firstR st k) ∧ Own wr (ga + 1) 3 v3 (nv L) ∧ L.Nodup ∧ (∀ t, t ∈ L ↔ t < k ∧ st t = true) ∧ (∀ t, t < n → ∀ j, (R t).ownBlock = some j → v3.ownBlock ≠ some j) ∧ Kp (fun j => j = g) w wr ∧ ga + 1 ≤ wr.heap.size) (fun _ v24 _ => n - (intOf v24).toNat)
  case atStart => exact ⟨0, [], _, rfl, Nat.zero_le _, HM0.out, HR0.out.kp HK0.out, Own.nil _ _ _, List.nodup_nil, fun t => ⟨fun h => (by cases h), fun h => absurd h.1 (Nat.not_lt_zero t)⟩, fun t ht j hj => (by cases hj), HKz.out, HSz0.out⟩
  case round =>
    clear HR0 HM0 HK0 HKz HSz0 d1
    obtain ⟨k, L, R, rfl, hk, hM, hRw, hO, hnd, hm, hfar, hK, hsz⟩ := hrel
    have HM := Lib.hid hM
    have HRw := Lib.hid hRw
    have HO := Lib.hid hO
    have HNd := Lib.hid hnd
    have HMm := Lib.hid hm
    have HFar := Lib.hid hfar
    have HK := Lib.hid hK
    have HSz := Lib.hid hsz
    clear hM hRw hO hnd hm hfar hK hsz
    obtain ⟨wp, rfl⟩ : ∃ wp : World, wp = wr := ⟨_, rfl⟩
    by_cases hlt : k < n
    · have k0 : (0 : Int) ≤ (k : Int) := by omega
      have k1 : (k : Int) < (n : Int) := by omega
      have b0 := HRw.out.cell0 hlt
      have b1 := HRw.out.cell1 hlt
      have b2 := HRw.out.cell2 hlt
      have b3 := HRw.out.cell3 hlt
      obtain ⟨bd, hbd⟩ : ∃ bd, BD k = bd := ⟨_, rfl⟩
      have HBd := Lib.hid hbd
      rw [hbd] at b1
      clear hbd
      obtain ⟨x2, hx2⟩ : ∃ x, Rc k = x := ⟨_, rfl⟩
      obtain ⟨x3, hx3⟩ : ∃ x, firstR st k k = x := ⟨_, rfl⟩
      rw [hx2] at b2
      rw [hx3] at b3
      clear hx2 hx3
      obtain ⟨xb, hxb⟩ : ∃ xb, wp.heap.size = xb := ⟨_, rfl⟩
      have HXb := Lib.hid hxb
      clear hxb
      obtain ⟨w1, hw1⟩ : ∃ w1 : World, w1 = wp.alloc (.cells #[.map (some (mb k)), .int .i64 bd, .int .i64 x2, .int .i64 x3] 75) := ⟨_, rfl⟩
      have HK1 := Lib.hid (show Kp (fun _ => False) wp w1 by rw [hw1]; exact (Kp.refl _ wp).alloc _)
      have HB1 := Lib.hid (show Blk w1 xb #[.map (some (mb k)), .int .i64 bd, .int .i64 x2, .int .i64 x3] 75 by rw [hw1, ← HXb.out]; exact Blk.new _ _ _)
      have HW1 := Lib.hid hw1
      clear hw1
      have e0 := HB1.out.cell (i := 0) (v := .map (some (mb k))) rfl
      obtain ⟨q, hMq, hq⟩ := HRw.out.map k hlt
      have HMq := Lib.hid (hMq.kp HK1.out (fun h => h))
      clear hMq
      go_upto_region 5 with fail
      rw [← HW1.out, HXb.out]
      clear HW1 b0 b1 b2 b3
      go_wp2_with (at_range; refine wpList_rangeI rfl (.tmp 30) rfl rfl HMq.out ?_; intro w2 cnt0 hrg hk2 hs2; go_frame)
      obtain ⟨r, hr⟩ : ∃ r, w1.heap.size = r := ⟨_, rfl⟩
      have hrx : xb < r := by have := HB1.out.lt; omega
      have hxg : ga + 1 ≤ xb := by have := HSz.out; have := HXb.out; omega
      rw [hr] at hrg hs2 ⊢
      have hK12 : Kp (fun _ => False) wp w2 := HK1.out.trans hk2 (fun _ _ h => h)
      have HRg := Lib.hid hrg
      have HM2 := Lib.hid (HM.out.kp hK12)
      have HR2 := Lib.hid (HRw.out.kp hK12)
      have HO2 := Lib.hid (HO.out.kp hK12 (fun _ _ h => h))
      have HB2 := Lib.hid (HB1.out.kp hk2 (fun h => h))
      have HK2 := Lib.hid (show Kp (fun j => j = g) w w2 from HK.out.trans (hK12.mono (T := fun j => j = g) (fun _ _ h => h.elim)) (fun _ _ h => h))
      have HFar2 := Lib.hid (show ∀ t, t < n → ∀ j, (R t).ownBlock = some j → u3.ownBlock ≠ some j ∧ j ≠ xb ∧ j ≠ r from fun t ht j hj => by
        have := ((HM.out.ow t ht).lt j hj).2
        have h2 := HXb.out
        exact ⟨HFar.out t ht j hj, by omega, by omega⟩)
      have HV := Lib.hid (show ∀ j, u3.ownBlock = some j → j < xb from fun j hj => by have := HO.out.lt j hj; have := HXb.out; omega)
      clear hrg hk2 hK12 HM HRw HO HB1 HK HFar HK1 HMq hr e0
      go_loopw [6] (fun _ wr => ∃ (R : Nat → Value) (A : Nat → List Int) (left : Int → Prop) (cnt : Nat), RGI wr (mb k) r q (F k) left cnt ∧ RowsM wr ga ga n R A ∧ (∀ t : Nat, t < n → (left (t : Int) → A t = ahV (ahN E k t)) ∧ (¬ left (t : Int) → A t = ahV (ahN E (k + 1) t))) ∧ RowsS wr g n mb F BD Rc (firstR st k) ∧ Own wr (ga + 1) 3 u3 (nv L) ∧ (∀ t, t < n → ∀ j, (R t).ownBlock = some j → u3.ownBlock ≠ some j ∧ j ≠ xb ∧ j ≠ r) ∧ Blk wr xb #[.map (some (mb k)), .int .i64 bd, .int .i64 x2, .int .i64 x3] 75 ∧ Kp (fun j => j = g) w wr ∧ r < wr.heap.size) (fun _ wr => wr.rangeLeft (mb k) r)
      case atStart =>
        refine ⟨R, _, _, cnt0, HRg.out, HM2.out, fun t ht => ⟨fun _ => rfl, fun h => ?_⟩, HR2.out, HO2.out, HFar2.out, HB2.out, HK2.out, by omega⟩
        rw [ahN_skip]
        have := HE.out k t
        cases he : E k t with
        | true => rw [he] at this; exact absurd this h
        | false => rfl
      case round =>
        clear HRg HM2 HR2 HO2 HFar2 HB2 HK2
        obtain ⟨R, A, left, cnt, hrg, hM, hA, hRw, hO, hfar, hB, hK, hsz⟩ := hrel
        have HRg := Lib.hid hrg
        have HM := Lib.hid hM
        have HA := Lib.hid hA
        have HRw := Lib.hid hRw
        have HO := Lib.hid hO
        have HFar := Lib.hid hfar
        have HB := Lib.hid hB
        have HK := Lib.hid hK
        have HSz2 := Lib.hid hsz
        clear hrg hM hA hRw hO hfar hB hK hsz
        obtain ⟨w3, rfl⟩ : ∃ w3 : World, w3 = wr := ⟨_, rfl⟩
        go_wp2_with (first
          | (at_next; refine wpList_nextI rfl (.tmp 31) rfl rfl HRg.out ?_ ?_)
          | go_in)
        · intro hdone
          have e1 := HB.out.cell (i := 1) (v := .int .i64 bd) rfl
          have HMn := Lib.hid (show RowsM w3 ga ga n R (fun t => ahV (ahN E (k + 1) t)) from HM.out.congr (fun t ht => (HA.out t ht).2 (hdone t (by unfold okInt; omega))))
          clear hdone HA HB HRg
          have hstk := HSt.out k
          rw [HBd.out] at hstk
          by_cases hbn : bd = -1
          · subst hbn
            have hsf : st k = false := by rw [← hstk]; rfl
            clear hstk
            go_wp2_with fail
            go_roundw
            case rel =>
              refine ⟨k + 1, L, R, by go_num, by omega, HMn.out, ?_, HO.out, HNd.out, fun t => ?_, fun t ht j hj => (HFar.out t ht j hj).1, HK.out, by have := HSz2.out; omega⟩
              · rw [firstR_skip hsf]; exact HRw.out
              · rw [HMm.out]
                constructor
                · rintro ⟨h1, h2⟩; exact ⟨by omega, h2⟩
                · rintro ⟨h1, h2⟩
                  refine ⟨?_, h2⟩
                  apply Classical.byContradiction
                  intro q
                  rw [show t = k by omega, hsf] at h2
                  cases h2
            case measure => simp [intOf]; omega
          · have hstt : st k = true := by rw [← hstk]; simp [hbn]
            clear hstk
            have d1 := HCs.out w3 HK.out
            have b3 := HRw.out.cell3 hlt
            have f3 := HRw.out.blk.free (k * 4 + 3)
            go_upto_region 11 with fail
            obtain ⟨w4, hw4⟩ : ∃ w4, w4 = w3.setCell ⟨g, k * 4 + 3, none⟩ (.int .i64 0) := ⟨_, rfl⟩
            rw [← hw4]
            have hK34 : Kp (fun j => j = g) w3 w4 := by rw [hw4]; exact Kp.set w3 ⟨g, k * 4 + 3, none⟩ (.int .i64 0)
            have HR4 := Lib.hid (show RowsS w4 g n mb F BD Rc (firstR st (k + 1)) by rw [hw4, firstR_put hstt]; exact HRw.out.setD hlt 0)
            have hgl := HLw.out.1
            have hgz := HSz2.out
            have HM4 := Lib.hid (HMn.out.kpO hK34 (fun e => by omega) (fun t ht j hj e => by have := (HMn.out.ow t ht).lt j hj; omega))
            have HO4 := Lib.hid (HO.out.kp hK34 (fun j hj e => by have := HO.out.lt j hj; omega))
            have HK4 := Lib.hid (HK.out.trans hK34 (fun _ _ h => h))
            have hsz4 := hK34.size
            have hll : L.length ≤ k := nodup_le k HNd.out (fun t ht => ((HMm.out t).1 ht).1)
            clear hw4 hK34 d1 b3 f3 HMn
            go_wp2_with (at_builtin; refine wpList_append1_at rfl _ _ 22 3 rfl Tryz.underlying22 HI.out rfl (HO4.out.alloc _) rfl ⟨w4.heap.size, 0, none⟩ (.int .i64 (k : Int)) rfl ?c1 rfl ?c2 ?c3 ?c4 ?_)
            case c1 => exact World.cell?_alloc_at _ _ _ _ rfl
            case c2 => rw [nv_length]; omega
            case c3 => rw [nv_length]; unfold maxLen; omega
            case c4 => simp; omega
            intro v' w5 hO5 hg5 hat5
            rw [← nv_snoc] at hO5
            have hK45 : Kp (fun j => u3.ownBlock = some j) w4 w5 := ((Kp.refl _ w4).alloc _).grown hg5 (fun j hj _ => hj)
            have hv5 := fun j hj => (HO4.out.lt j hj).1
            have HM5 := Lib.hid (HM4.out.kpO hK45 (fun e => by have := hv5 _ e; omega) (fun t ht j hj e => (HFar.out t ht j hj).1 e))
            have HR5 := Lib.hid (HR4.out.kpL HLw.out (hK45.mono (T := fun j => ga ≤ j) (fun j _ e => by have := hv5 j e; omega)))
            have HK5 := Lib.hid (show Kp (fun j => j = g) w w5 from HK4.out.trans hK45 (fun j h1 h2 => by have := hv5 j h2; have := HGa.out; omega))
            have HO5 := Lib.hid hO5
            have hsz5 := hK45.size
            have HFar5 := Lib.hid (show ∀ t, t < n → ∀ j, (R t).ownBlock = some j → v'.ownBlock ≠ some j from fun t ht j hj e => by
              have h1 := ((HM4.out.ow t ht).lt j hj).2
              rcases hat5 with e2 | e2
              · rw [e2] at e; exact (HFar.out t ht j hj).1 e
              · rw [e2] at e; simp at e; omega)
            clear hO5 hg5 hat5 hK45 hv5
            go_wp2_with fail
            go_roundw
            case rel =>
              refine ⟨k + 1, L ++ [k], R, by go_num, by omega, HM5.out, HR5.out, HO5.out, ?_, fun t => ?_, HFar5.out, HK5.out, by omega⟩
              · rw [List.nodup_append]
                refine ⟨HNd.out, by simp, fun a ha b hb => ?_⟩
                simp at hb
                subst hb
                have := ((HMm.out a).1 ha).1
                omega
              · rw [List.mem_append, HMm.out]
                constructor
                · rintro (⟨h1, h2⟩ | h1)
                  · exact ⟨by omega, h2⟩
                  · simp at h1; subst h1; exact ⟨by omega, hstt⟩
                · rintro ⟨h1, h2⟩
                  by_cases e : t = k
                  · exact .inr (by simp [e])
                  · exact .inl ⟨by omega, h2⟩
            case measure => simp [intOf]; omega
        · intro x c w4 cnt1 okx hlx hF hR1 hlt1 hk1 hs1 hen
          obtain ⟨v, rfl, hv⟩ := HF.out k hlt x c hF
          have v0 : (0 : Int) ≤ (v : Int) := by omega
          have v1 : (v : Int) < (n : Int) := by omega
          have hEv : E k v = true := by rw [← HE.out, hF]; rfl
          have hgl := HLw.out.1
          have HM4 := Lib.hid (HM.out.kpO hk1 (fun e => by omega) (fun t ht j hj e => (HFar.out t ht j hj).2.2 e))
          have HR4 := Lib.hid (HRw.out.kpS hk1 (fun e => by omega) (fun t ht e => by have := HLw.out.2 t ht; omega))
          have HO4 := Lib.hid (HO.out.kp hk1 (fun j hj e => by have := HV.out j hj; omega))
          have HB4 := Lib.hid (HB.out.kp hk1 (fun e => by omega))
          have HK4 := Lib.hid (HK.out.trans hk1 (fun j h1 e => by have := HGa.out; omega))
          have hszr := HSz2.out
          have hszr4 : r < w4.heap.size := by omega
          clear hs1
          have HAv := Lib.hid (show A v = ahV (ahN E k v) from (HA.out v hv).1 hlx)
          have HR1 := Lib.hid hR1
          have HLt := Lib.hid hlt1
          have RCa := HM4.out.cell hv
          have fCa := HM4.out.blk.free v
          have HOw := Lib.hid (HM4.out.ow v hv)
          have hal : (A v).length ≤ n := by rw [HAv.out]; have := ahN_len (E := E) (k := k) (t := v); simp [ahV]; omega
          obtain ⟨aa, cc, eea, -⟩ := HOw.out.form
          rw [eea] at RCa HOw
          have HEE := Lib.hid eea
          rw [iv_length] at RCa HOw HEE
          clear hF hR1 hk1 hlt1 eea HM HRw HO HB HK
          have HNw := Lib.hid (Blk.new w4 #[.int .i64 (k : Int)] 3)
          go_wp2_with (at_builtin; refine wpList_append1_at rfl _ _ 22 3 rfl Tryz.underlying22 HI.out rfl (HOw.out.alloc _) rfl ⟨w4.heap.size, 0, none⟩ (.int .i64 (k : Int)) rfl (HNw.out.cell rfl) rfl ?d1 ?d2 ?d3 ?_)
          case d1 => rw [iv_length]; omega
          case d2 => rw [iv_length]; unfold maxLen; omega
          case d3 => simp; omega
          intro v' w5 hO5 hg5 hat5
          obtain ⟨aN, cN, eN, -⟩ := hO5.form
          rw [List.length_append, List.length_singleton, iv_length] at eN
          subst eN
          have hP := HM4.out.push (k := v) (x := (k : Int)) hv (w1 := w4.alloc (.cells #[.int .i64 (k : Int)] 3)) ((Kp.refl _ _).alloc _) hO5 (by rw [HEE.out]; exact hg5) (by rw [HEE.out, World.size_alloc]; exact hat5)
          have HP := Lib.hid hP
          have HAt := Lib.hid hat5
          have c5 : w5.cell? ⟨ga, v, none⟩ = some (.slice aa (A v).length cc) := by
            rw [← RCa]
            refine World.cell?_of_block (w := w4) (w' := w5) (a := ⟨ga, v, none⟩) ?_
            have := ((Kp.refl (fun j => (R v).ownBlock = some j) w4).alloc (.cells #[.int .i64 (k : Int)] 3)).grown hg5 (fun j hj _ => by rw [HEE.out]; exact hj)
            exact this.block ga (by omega) (fun e => HM4.out.ne v hv ga e rfl)
          have f5 : w5.frozen? ⟨ga, v, none⟩ = false := by
            have h1 := ((Kp.refl (fun j => (R v).ownBlock = some j) w4).alloc (.cells #[.int .i64 (k : Int)] 3)).grown hg5 (fun j hj _ => by rw [HEE.out]; exact hj)
            exact (HM4.out.blk.kp h1 (fun e => HM4.out.ne v hv ga e rfl)).free v
          clear hP hO5 hg5 hat5 RCa fCa
          go_wp2_with fail
          have HP1 := Lib.hid HP.out.1
          have HKp := Lib.hid HP.out.2
          have hown : ∀ j, (R v).ownBlock = some j → ga ≤ j ∧ j < w4.heap.size := fun j hj => (HM4.out.ow v hv).lt j hj
          go_roundw
          case rel =>
            refine ⟨_, _, _, cnt1, HR1.out.kp HKp.out (fun e => ?_) (fun e => ?_), HP1.out, fun t ht => ⟨fun h => ?_, fun h => ?_⟩, HR4.out.kpS HKp.out (fun e => ?_) (fun t ht e => ?_), HO4.out.kp HKp.out (fun j hj e => ?_), fun t ht j hj => ?_, HB4.out.kp HKp.out (fun e => ?_), HK4.out.trans HKp.out (fun j h1 e => ?_), by have := HKp.out.size; omega⟩
            · have := HLw.out.2 k hlt
              rcases e with e | e
              · omega
              · have := (hown _ e).1; omega
            · rcases e with e | e
              · omega
              · exact (HFar.out v hv r e).2.2 rfl
            · rw [up1_off _ _ (fun e => h.2 (by rw [e]))]
              exact (HA.out t ht).1 h.1
            · by_cases e : t = v
              · subst e
                rw [up1_at, HAv.out, ahN_put hEv, ahV_snoc]
              · rw [up1_off _ _ e]
                exact (HA.out t ht).2 (fun q => h ⟨q, by omega⟩)
            · rcases e with e | e
              · omega
              · have := (hown _ e).1; omega
            · have := HLw.out.2 t ht
              rcases e with e | e
              · omega
              · have := (hown _ e).1; omega
            · have := HO4.out.lt j hj
              rcases e with e | e
              · omega
              · exact (HFar.out v hv j e).1 hj
            · by_cases e : t = v
              · subst e
                rw [up1_at] at hj
                rcases HAt.out with e2 | e2
                · rw [e2, ← HEE.out] at hj; exact HFar.out t hv j hj
                · rw [e2] at hj
                  have hj2 : w4.heap.size + 1 = j := by simpa using hj
                  exact ⟨fun q => by have := HO4.out.lt j q; omega, by omega, by omega⟩
              · rw [up1_off _ _ e] at hj
                exact HFar.out t ht j hj
            · rcases e with e | e
              · omega
              · exact (HFar.out v hv xb e).2.1 rfl
            · have := HGa.out
              rcases e with e | e
              · omega
              · have := (hown _ e).1; omega
          case measure => rw [(HR1.out.kp HKp.out (fun e => by
              have := HLw.out.2 k hlt
              rcases e with e | e
              · omega
              · have := (hown _ e).1; omega) (fun e => by
              rcases e with e | e
              · omega
              · exact (HFar.out v hv r e).2.2 rfl)).left_eq, HRg.out.left_eq]; exact HLt.out
    · obtain hk' : k = n := by omega
      subst hk'
      have k1 : ¬ (k : Int) < (k : Int) := by omega
      have HBnd := Lib.hid (show ∀ t, t < k → ∀ j, (R t).ownBlock = some j → j < wp.heap.size from fun t ht j hj => ((HM.out.ow t ht).lt j hj).2)
      obtain ⟨B, hB⟩ : ∃ B, wp.heap.size = B := ⟨_, rfl⟩
      have hBs : B ≤ wp.heap.size := by omega
      have HBs := Lib.hid hBs
      rw [hB] at HBnd
      clear hBs hB
      go_wp2_with fail
      go_loopw [3, 7] (fun v3 v7 wr => ∃ (m : Nat) (L : List Nat) (D : Nat → Int), v7 = .int .i64 ((m : Int) + 1) ∧ m ≤ k ∧ RowsM wr ga ga k R (fun t => ahV (ahN E k t)) ∧ RowsS wr g k mb F BD Rc D ∧ (∀ t, t < k → D t = distG k st E2 m t) ∧ Own wr (ga + 1) 3 v3 (nv L) ∧ L.Nodup ∧ (∀ t, t ∈ L ↔ t < k ∧ distG k st E2 m t = (m : Int)) ∧ (∀ j, j < m → ∃ t, t < k ∧ distG k st E2 m t = (j : Int)) ∧ Kp (fun j => j = g) w wr ∧ B ≤ wr.heap.size) (fun _ v7 _ => k + 2 - (intOf v7).toNat)
      case atStart =>
        refine ⟨0, L, firstR st k, rfl, Nat.zero_le _, HM.out, HRw.out, fun t ht => firstR_dist ht, HO.out, HNd.out, fun t => ?_, fun j hj => absurd hj (Nat.not_lt_zero j), HK.out, HBs.out⟩
        rw [HMm.out]
        refine and_congr_right fun ht => ?_
        rw [← firstR_dist ht]
        unfold firstR
        by_cases e : st t = true
        · rw [if_pos ⟨ht, e⟩]; simp [e]
        · rw [if_neg (fun q => e q.2)]
          exact ⟨fun q => absurd q e, fun q => by simp at q⟩
      case round =>
        clear HM HRw HO HNd HMm HK HBs HSz HFar
        obtain ⟨m, L, D, rfl, hm, hM, hRw, hRd, hO, hnd, hmem, hlay, hK, hBs⟩ := hrel
        obtain ⟨a2, c2, rfl, -⟩ := hO.form
        rw [nv_length]
        rw [nv_length] at hO
        have HM := Lib.hid hM
        have HRw := Lib.hid hRw
        have HO := Lib.hid hO
        have HNd := Lib.hid hnd
        have HMm := Lib.hid hmem
        have HLay := Lib.hid hlay
        have HRd := Lib.hid hRd
        have HK := Lib.hid hK
        have HBs := Lib.hid hBs
        have hLk : L.length ≤ k := nodup_le k hnd (fun t ht => ((hmem t).1 ht).1)
        clear hM hRw hO hnd hmem hlay hRd hK hBs
        obtain ⟨wp, rfl⟩ : ∃ wp : World, wp = wr := ⟨_, rfl⟩
        by_cases hL : 0 < L.length
        · have hL1 : (0 : Int) < (L.length : Int) := by omega
          obtain ⟨g2, cap, eg, hg2, hg2'⟩ := HO.out.leads (by rw [nv_length]; exact hL)
          simp only [Value.slice.injEq] at eg
          obtain ⟨rfl, -, rfl⟩ := eg
          have hmk : m < k := layers_cnt (m := m) (fun j hj => by
            by_cases e : j = m
            · subst e; exact ⟨gn L 0, (HMm.out _).1 (gn_mem hL)⟩
            · exact HLay.out j (by omega))
          have HLo := Lib.hid (show LowR wp.heap.size g k mb from HRw.out.lowR)
          have HWs := Lib.hid (show ga + 1 ≤ wp.heap.size by have := HM.out.blk.lt; omega)
          go_wp2_with fail
          go_loopw [8, 68] (fun v8 v68 w3 => ∃ (i : Nat) (N : List Nat) (D : Nat → Int), v68 = .int .i64 (i : Int) ∧ i ≤ L.length ∧ RowsM w3 ga ga k R (fun t => ahV (ahN E k t)) ∧ RowsS w3 g k mb F BD Rc D ∧ MidG k st E2 m (fun t => ∃ j, j < i ∧ E2 (gn L j) t = true) D N ∧ Own w3 (ga + 1) 3 (.slice (some ⟨g2, 0, none⟩) L.length c2) (nv L) ∧ Own w3 wp.heap.size 3 v8 (nv N) ∧ Kp (fun j => j = g) w w3 ∧ wp.heap.size ≤ w3.heap.size) (fun _ v68 _ => L.length - (intOf v68).toNat)
          case atStart => exact ⟨0, [], D, rfl, Nat.zero_le _, HM.out, HRw.out, (MidG.start HRd.out).congr (fun t _ => ⟨fun h => h.elim, fun ⟨j, hj, _⟩ => absurd hj (Nat.not_lt_zero j)⟩), HO.out, Own.nil _ _ _, HK.out, Nat.le_refl _⟩
          case round =>
            clear HM HRw HO HK HRd
            obtain ⟨i, N, D, rfl, hi, hM, hRw, hMid, hO, hO5, hK, hsz⟩ := hrel
            have HM := Lib.hid hM
            have HRw := Lib.hid hRw
            have HMid := Lib.hid hMid
            have HO := Lib.hid hO
            have HO5 := Lib.hid hO5
            have HK := Lib.hid hK
            have HSz := Lib.hid hsz
            clear hM hRw hMid hO hO5 hK hsz
            obtain ⟨w3, rfl⟩ : ∃ w3 : World, w3 = wr := ⟨_, rfl⟩
            by_cases hiL : i < L.length
            · have i0 : (0 : Int) ≤ (i : Int) := by omega
              have i1 : (i : Int) < (L.length : Int) := by omega
              obtain ⟨s, hs⟩ : ∃ s, gn L i = s := ⟨_, rfl⟩
              have cl := HO.out.cell (nv_at hiL)
              rw [hs] at cl
              have hsm := (HMm.out s).1 (hs ▸ gn_mem hiL)
              have hsk := hsm.1
              have HS := Lib.hid hs
              clear hsm hs
              have s0 : (0 : Int) ≤ (s : Int) := by omega
              have s1 : (s : Int) < (k : Int) := by omega
              obtain ⟨P, hP⟩ : ∃ P, ahN E k s = P := ⟨_, rfl⟩
              have HP := Lib.hid hP
              have hOs := HM.out.ow s hsk
              have RCs := HM.out.cell hsk
              have hPo : Own w3 ga 3 (R s) (nv P) := by rw [← hP, ← ahV_iv]; exact hOs
              obtain ⟨pa, pc, epa, -⟩ := hPo.form
              rw [nv_length] at epa
              rw [epa] at RCs hPo
              have HEp := Lib.hid epa
              have hPl : P.length ≤ k := by rw [← hP]; exact ahN_len
              clear hP hOs epa hPo
              go_wp2_with fail
              go_loopw [8, 77] (fun v8 v77 w5 => ∃ (l : Nat) (N : List Nat) (D : Nat → Int), v77 = .int .i64 (l : Int) ∧ l ≤ P.length ∧ RowsM w5 ga ga k R (fun t => ahV (ahN E k t)) ∧ RowsS w5 g k mb F BD Rc D ∧ MidG k st E2 m (fun t => (∃ j, j < i ∧ E2 (gn L j) t = true) ∨ ∃ j, j < l ∧ gn P j = t) D N ∧ Own w5 (ga + 1) 3 (.slice (some ⟨g2, 0, none⟩) L.length c2) (nv L) ∧ Own w5 wp.heap.size 3 v8 (nv N) ∧ Kp (fun j => j = g) w w5 ∧ wp.heap.size ≤ w5.heap.size) (fun _ v77 _ => P.length - (intOf v77).toNat)
              case atStart =>
                exact ⟨0, N, D, rfl, Nat.zero_le _, HM.out, HRw.out, HMid.out.congr (fun t ht => ⟨fun h => .inl h, fun h => h.resolve_right (fun ⟨j, hj, _⟩ => absurd hj (Nat.not_lt_zero j))⟩), HO.out, HO5.out, HK.out, HSz.out⟩
              case round =>
                clear HM HRw HMid HO HO5 HK HSz RCs cl
                obtain ⟨l, N, D, rfl, hl, hM, hRw, hMid, hO, hO5, hK, hsz⟩ := hrel
                have HM := Lib.hid hM
                have HRw := Lib.hid hRw
                have HMid := Lib.hid hMid
                have HO := Lib.hid hO
                have HO5 := Lib.hid hO5
                have HK := Lib.hid hK
                have HSz := Lib.hid hsz
                clear hM hRw hMid hO hO5 hK hsz
                obtain ⟨w5, rfl⟩ : ∃ w5 : World, w5 = wr := ⟨_, rfl⟩
                by_cases hlP : l < P.length
                · have l0 : (0 : Int) ≤ (l : Int) := by omega
                  have l1 : (l : Int) < (P.length : Int) := by omega
                  obtain ⟨v, hv⟩ : ∃ v, gn P l = v := ⟨_, rfl⟩
                  have HPo := Lib.hid (show Own w5 ga 3 (.slice pa P.length pc) (nv P) by
                    rw [← HEp.out, ← HP.out, ← ahV_iv]; exact HM.out.ow s hsk)
                  obtain ⟨g5, cap, eg, hg5, -⟩ := HPo.out.leads (by rw [nv_length]; omega)
                  simp only [Value.slice.injEq] at eg
                  obtain ⟨rfl, -, rfl⟩ := eg
                  have cv := HPo.out.cell (nv_at hlP)
                  have hvm := (ahN_mem (E := E) (k := k) (t := s) (s := v)).1 (by rw [HP.out, ← hv]; exact gn_mem hlP)
                  have hvk := hvm.1
                  rw [hv] at cv
                  have HV := Lib.hid hv
                  clear hv hvm
                  have v0 : (0 : Int) ≤ (v : Int) := by omega
                  have v1 : (v : Int) < (k : Int) := by omega
                  have e3 := HRw.out.cell3 hvk
                  have f3 := HRw.out.blk.free (v * 4 + 3)
                  have d1 := HCs.out w5 HK.out
                  obtain ⟨dv, hdv⟩ : ∃ dv, D v = dv := ⟨_, rfl⟩
                  rw [hdv] at e3
                  have HQ := Lib.hid (show ∀ t, t < k → ((((∃ j, j < i ∧ E2 (gn L j) t = true) ∨ ∃ j, j < l ∧ gn P j = t) ∨ t = v) ↔ ((∃ j, j < i ∧ E2 (gn L j) t = true) ∨ ∃ j, j < l + 1 ∧ gn P j = t)) from fun t ht => by
                    constructor
                    · rintro ((h | ⟨j, h1, h2⟩) | rfl)
                      · exact .inl h
                      · exact .inr ⟨j, by omega, h2⟩
                      · exact .inr ⟨l, by omega, HV.out⟩
                    · rintro (h | ⟨j, h1, h2⟩)
                      · exact .inl (.inl h)
                      · by_cases e : j = l
                        · subst e; exact .inr (h2.symm.trans HV.out)
                        · exact .inl (.inr ⟨j, by omega, h2⟩))
                  by_cases hr1 : dv = -1
                  · subst hr1
                    go_upto_region 25 with fail
                    obtain ⟨w7, hw7⟩ : ∃ w7, w7 = w5.setCell ⟨g, v * 4 + 3, none⟩ (.int .i64 ((m : Int) + 1)) := ⟨_, rfl⟩
                    rw [← hw7]
                    have hK67 : Kp (fun j => j = g) w5 w7 := by rw [hw7]; exact Kp.set w5 ⟨g, v * 4 + 3, none⟩ (.int .i64 ((m : Int) + 1))
                    have HR7 := Lib.hid (show RowsS w7 g k mb F BD Rc (upI D v ((m : Int) + 1)) by rw [hw7]; exact HRw.out.setD hvk _)
                    have hlg := HLw.out.1
                    have hws := HWs.out
                    have hsz5 := HSz.out
                    have HM7 := Lib.hid (HM.out.kpO hK67 (fun e => by omega) (fun t ht j hj e => by have := (HM.out.ow t ht).lt j hj; omega))
                    have HO7 := Lib.hid (HO.out.kp hK67 (fun j hj e => by simp [Value.ownBlock] at hj; omega))
                    have HN7 := Lib.hid (HO5.out.kp hK67 (fun j hj e => by have := HO5.out.lt j hj; omega))
                    have HK7 := Lib.hid (HK.out.trans hK67 (fun _ _ h => h))
                    have hsz7 := hK67.size
                    have HMd := Lib.hid ((HMid.out.put hvk hdv).congr HQ.out)
                    have hNl : N.length ≤ k := nodup_le k HMid.out.nd (fun t ht => ((HMid.out.mem t).1 ht).1)
                    clear hw7 hK67 e3 f3 d1 cv
                    go_wp2_with (at_builtin; refine wpList_append1 rfl _ _ 22 3 rfl Tryz.underlying22 HI.out rfl (HN7.out.alloc _) rfl ⟨w7.heap.size, 0, none⟩ (.int .i64 (v : Int)) rfl ?c1 rfl ?c2 ?c3 ?c4 ?_)
                    case c1 => exact World.cell?_alloc_at _ _ _ _ rfl
                    case c2 => rw [nv_length]; omega
                    case c3 => rw [nv_length]; unfold maxLen; omega
                    case c4 => simp; omega
                    intro v' w8 hO8 hg8
                    rw [← nv_snoc] at hO8
                    have hv8 := fun j hj => (HN7.out.lt j hj).1
                    have hK78 : Kp (fun j => wp.heap.size ≤ j) w7 w8 := ((Kp.refl _ w7).alloc _).grown hg8 (fun j hj _ => hv8 j hj)
                    have HR8 := Lib.hid (HR7.out.kpL HLo.out hK78)
                    have hbs := HBs.out
                    have hga := HGa.out
                    have HM8 := Lib.hid (HM7.out.kpO hK78 (fun e => by omega) (fun t ht j hj e => by have := HBnd.out t ht j hj; omega))
                    have HK8 := Lib.hid (show Kp (fun j => j = g) w w8 from HK7.out.trans hK78 (fun j h1 h2 => by omega))
                    have HO8 := Lib.hid (HO7.out.kp hK78 (fun j hj e => by simp [Value.ownBlock] at hj; omega))
                    have HN8 := Lib.hid hO8
                    have hsz8 := hK78.size
                    clear hO8 hg8 hv8 hK78
                    go_wp2_with fail
                    go_roundw
                    case rel =>
                      exact ⟨l + 1, N ++ [v], _, by go_num, by omega, HM8.out, HR8.out, HMd.out, HO8.out, HN8.out, HK8.out, by omega⟩
                    case measure => simp [intOf]; omega
                  · go_wp2_with fail
                    go_roundw
                    case rel =>
                      exact ⟨l + 1, N, D, by go_num, by omega, HM.out, HRw.out, (HMid.out.skip hvk (by rw [hdv]; exact hr1)).congr HQ.out, HO.out, HO5.out, HK.out, HSz.out⟩
                    case measure => simp [intOf]; omega
                · have l1 : ¬ (l : Int) < (P.length : Int) := by omega
                  obtain hle : l = P.length := by omega
                  subst hle
                  go_wp2_with fail
                  go_roundw
                  case rel =>
                    refine ⟨i + 1, N, D, by go_num, by omega, HM.out, HRw.out, HMid.out.congr fun t ht => ?_, HO.out, HO5.out, HK.out, HSz.out⟩
                    have hmemP : (∃ j, j < P.length ∧ gn P j = t) ↔ E2 s t = true := by
                      rw [HE2.out]
                      constructor
                      · rintro ⟨j, h1, rfl⟩
                        exact ((ahN_mem (E := E) (k := k) (t := s) (s := gn P j)).1 (by rw [HP.out]; exact gn_mem h1)).2
                      · intro h
                        have : t ∈ P := by rw [← HP.out]; exact ahN_mem.2 ⟨ht, h⟩
                        obtain ⟨j, hj, e⟩ := List.mem_iff_getElem.1 this
                        exact ⟨j, hj, by unfold gn; rw [List.getElem?_eq_getElem hj, e]; rfl⟩
                    rw [hmemP]
                    constructor
                    · rintro (⟨j, h1, h2⟩ | h1)
                      · exact ⟨j, by omega, h2⟩
                      · exact ⟨i, by omega, by rw [HS.out]; exact h1⟩
                    · rintro ⟨j, h1, h2⟩
                      by_cases e : j = i
                      · subst e; rw [HS.out] at h2; exact .inr h2
                      · exact .inl ⟨j, by omega, h2⟩
                  case measure => simp [intOf]; omega
            · have i1 : ¬ (i : Int) < (L.length : Int) := by omega
              obtain hie : i = L.length := by omega
              subst hie
              obtain ⟨a5, c5, rfl, -⟩ := HO5.out.form
              rw [nv_length]
              have HO5 := Lib.hid (nv_length N ▸ HO5.out)
              go_wp2_with fail
              go_roundw
              case rel =>
                have hfin := (HMid.out.congr (Q' := fun t => ∃ s, s < k ∧ distG k st E2 m s = m ∧ E2 s t = true) fun t ht => by
                  constructor
                  · rintro ⟨j, hj, he⟩
                    have := (HMm.out (gn L j)).1 (gn_mem hj)
                    exact ⟨_, this.1, this.2, he⟩
                  · rintro ⟨s, h1, h2, h3⟩
                    obtain ⟨j, hj, e⟩ := List.mem_iff_getElem.1 ((HMm.out s).2 ⟨h1, h2⟩)
                    refine ⟨j, hj, ?_⟩
                    rw [show gn L j = s by unfold gn; rw [List.getElem?_eq_getElem hj, e]; rfl]
                    exact h3).fin
                refine ⟨m + 1, N, D, by go_num, by omega, HM.out, HRw.out, hfin.1, HO5.out.mono (by have := HWs.out; omega), HMid.out.nd, fun t => by rw [hfin.2 t], fun j hj => ?_, HK.out, by have := HSz.out; have := HBs.out; omega⟩
                by_cases e : j = m
                · subst e
                  have := (HMm.out (gn L 0)).1 (gn_mem hL)
                  exact ⟨gn L 0, this.1, by rw [distG_keep (by rw [this.2]; omega), this.2]⟩
                · obtain ⟨t, h1, h2⟩ := HLay.out j (by omega)
                  exact ⟨t, h1, by rw [distG_keep (by rw [h2]; omega), h2]⟩
              case measure => simp [intOf]; omega
        · have hL1 : ¬ (0 : Int) < (L.length : Int) := by omega
          go_wp2_with fail
          go_end0
          refine ⟨rfl, HRw.out.congrD fun t ht => ?_, HK.out⟩
          rw [HRd.out t ht]
          have := distG_still (n := k) (st := st) (E := E2) (m := m) (fun t ht e => hL (List.length_pos_of_mem ((HMm.out t).2 ⟨ht, e⟩))) (k - m) t
          rw [← this, show m + (k - m) = k by omega]

end Go.Proofs.YtnoknecfdnjomaaGreat

/-
  step.States.
-/
namespace Go.Proofs.YtnoknecfdnjomaaGreat
open Go.RowKit

end Go.Proofs.YtnoknecfdnjomaaGreat
