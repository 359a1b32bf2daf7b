/-
  The plain arithmetic of layer 26: the row's numbers, and what they sum up to.
-/
import Derived.Test.YtojodmfkenfhlaaBase
import Derived.Lib.BitFns
namespace Go.Proofs.Ytojodmfkenfhlaa
open Go.RowKit

/-- the i-th number of the row, with fuel -/
def rowF : Nat → Nat → Nat
  | 0, _ => 0
  | f + 1, i => if i = 0 then 0 else if i + 1 = 2 ^ Lib.bitLen i then 2 ^ (Lib.bitLen i - 1) else rowF f (i + 1 - 2 ^ (Lib.bitLen i - 1))

theorem bitLenAux_spec (f : Nat) : ∀ x, x < 2 ^ f → 0 < x → 2 ^ (Lib.bitLenAux f x - 1) ≤ x ∧ x < 2 ^ Lib.bitLenAux f x ∧ 0 < Lib.bitLenAux f x ∧ Lib.bitLenAux f x ≤ f := by
  induction f with
  | zero => intro x h h0; simp at h; omega
  | succ f ih =>
    intro x h h0
    rw [Nat.pow_succ] at h
    simp only [Lib.bitLenAux]
    rw [if_neg (by omega)]
    by_cases h2 : x / 2 = 0
    · have : Lib.bitLenAux f (x / 2) = 0 := by rw [h2]; cases f <;> simp [Lib.bitLenAux]
      rw [this]
      have : x = 1 := by omega
      subst this
      simp
    · obtain ⟨a, b, c, d⟩ := ih (x / 2) (by omega) (by omega)
      generalize Lib.bitLenAux f (x / 2) = k at *
      obtain ⟨k, rfl⟩ : ∃ j, k = j + 1 := ⟨k - 1, by omega⟩
      rw [show 1 + (k + 1) - 1 = k + 1 from by omega, show 1 + (k + 1) = k + 2 from by omega]
      simp only [Nat.add_sub_cancel] at a
      rw [Nat.pow_succ] at b ⊢
      rw [Nat.pow_succ]
      refine ⟨by omega, ?_, by omega, by omega⟩
      rw [Nat.pow_succ]
      omega

theorem bitLen_spec {x : Nat} (h : x < 2 ^ 64) (h0 : 0 < x) : 2 ^ (Lib.bitLen x - 1) ≤ x ∧ x < 2 ^ Lib.bitLen x ∧ 0 < Lib.bitLen x ∧ Lib.bitLen x ≤ 64 := bitLenAux_spec 64 x h h0

theorem pow_two_le {a b : Nat} (h : a ≤ b) : 2 ^ a ≤ 2 ^ b := Nat.pow_le_pow_right (by decide) h

/-- the length is told by the two powers about it -/
theorem bitLen_eq {x k : Nat} (h : x < 2 ^ 64) (h1 : 2 ^ k ≤ x) (h2 : x < 2 ^ (k + 1)) : Lib.bitLen x = k + 1 := by
  have h0 : 0 < x := Nat.lt_of_lt_of_le (Nat.two_pow_pos k) h1
  obtain ⟨a, b, c, d⟩ := bitLen_spec h h0
  generalize Lib.bitLen x = n at *
  rcases Nat.lt_trichotomy n (k + 1) with e | e | e
  · have := pow_two_le (show n ≤ k by omega); omega
  · exact e
  · have := pow_two_le (show k + 1 ≤ n - 1 by omega); omega

def row (i : Nat) : Nat := rowF i i

/-- one step of the row: what is left is smaller -/
theorem row_less {i : Nat} (h : i < 2 ^ 64) (h0 : 0 < i) (h1 : i + 1 ≠ 2 ^ Lib.bitLen i) : 0 < i + 1 - 2 ^ (Lib.bitLen i - 1) ∧ i + 1 - 2 ^ (Lib.bitLen i - 1) < i := by
  obtain ⟨a, b, c, d⟩ := bitLen_spec h h0
  refine ⟨by omega, ?_⟩
  by_cases hk : Lib.bitLen i = 1
  · rw [hk] at h1 b a; omega
  · have := pow_two_le (show 1 ≤ Lib.bitLen i - 1 by omega)
    omega

theorem rowF_zero (f : Nat) : rowF f 0 = 0 := by cases f <;> simp [rowF]

theorem rowF_same (f : Nat) : ∀ g i, i ≤ f → i ≤ g → i < 2 ^ 64 → rowF f i = rowF g i := by
  induction f with
  | zero =>
    intro g i h _ _
    have : i = 0 := by omega
    subst this
    rw [rowF_zero, rowF_zero]
  | succ f ih =>
    intro g i h hg hb
    by_cases h0 : i = 0
    · subst h0; rw [rowF_zero, rowF_zero]
    · obtain ⟨g, rfl⟩ : ∃ j, g = j + 1 := ⟨g - 1, by omega⟩
      simp only [rowF]
      rw [if_neg h0, if_neg h0]
      by_cases h1 : i + 1 = 2 ^ Lib.bitLen i
      · rw [if_pos h1, if_pos h1]
      · rw [if_neg h1, if_neg h1]
        obtain ⟨l1, l2⟩ := row_less hb (by omega) h1
        exact ih g _ (by omega) (by omega) (by omega)

theorem row_zero : row 0 = 0 := rfl

theorem row_last {i : Nat} (h0 : 0 < i) (h1 : i + 1 = 2 ^ Lib.bitLen i) : row i = 2 ^ (Lib.bitLen i - 1) := by
  obtain ⟨j, rfl⟩ : ∃ j, i = j + 1 := ⟨i - 1, by omega⟩
  unfold row
  simp only [rowF]
  rw [if_neg (by omega), if_pos h1]

theorem row_step {i : Nat} (hb : i < 2 ^ 64) (h0 : 0 < i) (h1 : i + 1 ≠ 2 ^ Lib.bitLen i) : row i = row (i + 1 - 2 ^ (Lib.bitLen i - 1)) := by
  obtain ⟨l1, l2⟩ := row_less hb h0 h1
  obtain ⟨j, rfl⟩ : ∃ j, i = j + 1 := ⟨i - 1, by omega⟩
  unfold row
  rw [rowF, if_neg (by omega), if_neg h1]
  exact rowF_same _ _ _ (by omega) (by omega) (by omega)

theorem row_le (n : Nat) : ∀ i, i ≤ n → i < 2 ^ 64 → row i ≤ i := by
  induction n with
  | zero => intro i h _; have : i = 0 := by omega
            subst this; simp [row_zero]
  | succ n ih =>
    intro i h hb
    by_cases h0 : i = 0
    · subst h0; simp [row_zero]
    · by_cases h1 : i + 1 = 2 ^ Lib.bitLen i
      · rw [row_last (by omega) h1]
        exact (bitLen_spec hb (by omega)).1
      · rw [row_step hb (by omega) h1]
        obtain ⟨l1, l2⟩ := row_less hb (by omega) h1
        have := ih _ (show i + 1 - 2 ^ (Lib.bitLen i - 1) ≤ n by omega) (by omega)
        omega

/-- the row's numbers summed up -/
def rowSum : Nat → Nat
  | 0 => 0
  | i + 1 => rowSum i + row (i + 1)

theorem rowSum_le (n : Nat) (h : n ≤ 10000) : rowSum n ≤ n * n := by
  induction n with
  | zero => simp [rowSum]
  | succ n ih =>
    have h1 := ih (by omega)
    have h2 := row_le (n + 1) (n + 1) (Nat.le_refl _) (by omega)
    simp only [rowSum]
    rw [Nat.mul_add, Nat.add_mul]
    omega

theorem rowSum_all : ∀ n, n < 12 → rowSum (2 * 2 ^ n - 1) = (n + 1) * 2 ^ n := by
  decide +kernel

end Go.Proofs.Ytojodmfkenfhlaa
