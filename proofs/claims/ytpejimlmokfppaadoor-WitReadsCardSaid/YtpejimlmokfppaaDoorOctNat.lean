/-
  Layer 1 in plain words: the number whose digits stand at a place.
-/
import Derived.Test.YtpejimlmokfppaaDoorOctPlain
import Derived.Lib.Atoi
import Derived.Lib.Strings
namespace Go.Proofs.YtpejimlmokfppaaDoor
open Go.RowKit

/-- whether the byte at a place is a digit -/
def isDig (s : ByteArray) (i : Nat) : Prop := 48 ≤ bt s i ∧ bt s i ≤ 57

/-- how many digits stand from a place on -/
def runL (s : ByteArray) : Nat → Nat → Nat
  | 0, _ => 0
  | f + 1, i => if 48 ≤ bt s i ∧ bt s i ≤ 57 then runL s f (i + 1) + 1 else 0

def endOf (s : ByteArray) (i : Nat) : Nat := i + runL s (s.size - i) i

theorem runL_le (s : ByteArray) (f : Nat) : ∀ i, runL s f i ≤ f := by
  induction f with
  | zero => intro i; simp [runL]
  | succ f ih => intro i; simp only [runL]; split; (have := ih (i + 1); omega); omega

theorem runL_dig (s : ByteArray) (f : Nat) : ∀ i j, j < runL s f i → isDig s (i + j) := by
  induction f with
  | zero => intro i j h; simp [runL] at h
  | succ f ih =>
    intro i j h
    simp only [runL] at h
    split at h
    · rename_i hd
      cases j with
      | zero => exact hd
      | succ j => have := ih (i + 1) j (by omega); rw [show i + (j + 1) = i + 1 + j from by omega]; exact this
    · omega

theorem runL_stop (s : ByteArray) (f : Nat) : ∀ i, runL s f i < f → ¬ isDig s (i + runL s f i) := by
  induction f with
  | zero => intro i h; omega
  | succ f ih =>
    intro i h
    simp only [runL] at h ⊢
    split
    · rename_i hd
      rw [if_pos hd] at h
      have := ih (i + 1) (by omega)
      rw [show i + (runL s f (i + 1) + 1) = i + 1 + runL s f (i + 1) from by omega]
      exact this
    · rename_i hd; rw [Nat.add_zero]; exact hd

theorem endOf_ge (s : ByteArray) (i : Nat) : i ≤ endOf s i := by unfold endOf; omega
theorem endOf_le {s : ByteArray} {i : Nat} (h : i ≤ s.size) : endOf s i ≤ s.size := by
  have := runL_le s (s.size - i) i
  unfold endOf; omega

/-- where digits stand up to j and none at j, j is the end -/
theorem endOf_is {s : ByteArray} {i j : Nat} (hij : i ≤ j) (hj : j ≤ s.size) (h : ∀ k, i ≤ k → k < j → isDig s k) (hs : j = s.size ∨ ¬ isDig s j) : endOf s i = j := by
  have h1 := runL_le s (s.size - i) i
  unfold endOf
  rcases Nat.lt_trichotomy (i + runL s (s.size - i) i) j with h2 | h2 | h2
  · exact absurd (h _ (by omega) h2) (runL_stop s (s.size - i) i (by omega))
  · exact h2
  · have := runL_dig s (s.size - i) i (j - i) (by omega)
    rw [show i + (j - i) = j from by omega] at this
    rcases hs with e | e
    · omega
    · exact absurd this e

/-- the number of k digits -/
def numb (s : ByteArray) (i : Nat) : Nat → Nat
  | 0 => 0
  | k + 1 => 10 * numb s i k + (bt s (i + k) - 48)

theorem numb_lt {s : ByteArray} {i : Nat} (k : Nat) (h : ∀ j, j < k → isDig s (i + j)) : numb s i k < 10 ^ k := by
  induction k with
  | zero => simp [numb]
  | succ k ih =>
    have h1 := ih (fun j hj => h j (by omega))
    have h2 := h k (by omega)
    unfold isDig at h2
    simp only [numb]
    rw [Nat.pow_succ]
    omega

def natN (s : ByteArray) (i : Nat) : Nat × Nat × Nat :=
  if i = s.size then (0, 0, 3)
  else if endOf s i = i ∨ bt s i = 48 ∧ i + 1 < endOf s i then (0, 0, 2)
  else if 9 < endOf s i - i then (0, 0, 5)
  else (numb s i (endOf s i - i), endOf s i, 0)

def natT (s : ByteArray) (x : Int) : Nat × Nat × Nat := if x < 0 ∨ (s.size : Int) < x then (0, 0, 1) else natN s x.toNat

theorem byte_at {s : ByteArray} {i : Nat} (h : i < s.size) : ∃ b : UInt8, s.data.toList[i]? = some b ∧ b.toNat = bt s i := by
  refine ⟨s[i]'h, ?_, bt_eq h⟩
  have h2 : i < s.data.size := h
  rw [Array.getElem?_toList, Array.getElem?_eq_getElem h2]
  rfl

theorem word_dec {s : ByteArray} {i : Nat} (k : Nat) (hk : i + k ≤ s.size) (h : ∀ j, j < k → isDig s (i + j)) : Lib.decFrom 0 ((s.data.toList.drop i).take k) = some (numb s i k) := by
  induction k with
  | zero => simp [Lib.decFrom, numb]
  | succ k ih =>
    have h1 := ih (by omega) (fun j hj => h j (by omega))
    obtain ⟨b, hb, hb2⟩ := byte_at (s := s) (i := i + k) (by omega)
    have hd := h k (by omega)
    unfold isDig at hd
    have hv : Lib.digitVal b = some (bt s (i + k) - 48) := by
      unfold Lib.digitVal
      rw [if_pos ⟨by omega, by omega⟩, hb2]
    have := Lib.decFrom_take (s.data.toList.drop i) k 0 (numb s i k) b _ h1 (by rw [List.getElem?_drop]; exact hb) hv
    rw [this]
    simp only [numb]
    congr 1
    omega

theorem word_atoi {s : ByteArray} {i k : Nat} (hk0 : 0 < k) (hk : i + k ≤ s.size) (h : ∀ j, j < k → isDig s (i + j)) : Lib.atoi ((s.data.toList.drop i).take k) = some (numb s i k : Int) := by
  obtain ⟨b, hb, hb2⟩ := byte_at (s := s) (i := i) (by omega)
  have h0 := h 0 hk0
  unfold isDig at h0
  rw [Nat.add_zero] at h0
  have hd := word_dec k hk h
  have hlen : i < s.data.toList.length := by rw [← Lib.size_eq]; omega
  have e : (s.data.toList.drop i).take k = b :: ((s.data.toList.drop (i + 1)).take (k - 1)) := by
    obtain ⟨k', rfl⟩ : ∃ k', k = k' + 1 := ⟨k - 1, by omega⟩
    rw [List.drop_eq_getElem_cons hlen, List.take_succ_cons]
    rw [List.getElem?_eq_getElem hlen] at hb
    simp only [Option.some.injEq] at hb
    rw [hb]
    rfl
  rw [e] at hd ⊢
  have n1 : (b == 45) = false := by
    rw [beq_eq_false_iff_ne]; intro h; subst h; simp at hb2; omega
  have n2 : (b == 43) = false := by
    rw [beq_eq_false_iff_ne]; intro h; subst h; simp at hb2; omega
  simp only [Lib.atoi, n1, n2, Bool.false_eq_true, if_false, Lib.decNat, List.isEmpty_cons, hd, Option.map_some]

theorem cut_size {s : ByteArray} {i n : Nat} (h : i + n ≤ s.size) : (s.extract i (i + n)).size = n := by
  rw [ByteArray.size_extract]; omega

theorem cut_list {s : ByteArray} {i n : Nat} : (s.extract i (i + n)).data.toList = (s.data.toList.drop i).take n := by
  rw [Lib.extract_data, show i + n - i = n from by omega]

theorem cut_empty (s : ByteArray) (i : Nat) : (s.extract i i).toList = [] := by
  rw [Lib.extract_toList]; simp

theorem cut_first {s : ByteArray} {i n : Nat} (h : i + n ≤ s.size) (h0 : 0 < (s.extract i (i + n)).size) : ((s.extract i (i + n))[0]'h0).toNat = bt s i := by
  have hn : 0 < n := by rw [cut_size h] at h0; exact h0
  rw [ByteArray.getElem_extract]
  simp only [Nat.add_zero]
  exact bt_eq (by omega)

theorem cut_some {s : ByteArray} {i n : Nat} (h : i + n ≤ s.size) (hn : 0 < n) : (s.extract i (i + n)).toList ≠ [] := by
  intro e
  have h1 := congrArg List.length e
  rw [Lib.toList_data, ← Lib.size_eq, cut_size h] at h1
  simp at h1
  omega

end Go.Proofs.YtpejimlmokfppaaDoor
