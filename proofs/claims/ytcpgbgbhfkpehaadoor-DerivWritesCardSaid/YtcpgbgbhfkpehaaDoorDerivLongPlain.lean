/-
  Long derivations' texts: what is read of them. No program in sight.
-/
import Derived.Test.YtcpgbgbhfkpehaaDoorDerivText
namespace Go.Proofs.YtcpgbgbhfkpehaaDoor
open Go.RowKit

/-- the byte at a place of the long text -/
def pat (i : Nat) : UInt8 := if i % 2 = 0 then 43 else 10
def pats (n : Nat) : List UInt8 := (List.range n).map pat

def empties (k : Nat) : List (Bool × List Nat) := List.replicate k (false, [])

theorem pats_two : ∀ k : Nat, pats (2 * k) = linesText (ltl (empties k))
  | 0 => rfl
  | k + 1 => by
    have h := pats_two k
    unfold pats at h ⊢
    unfold empties at h ⊢
    rw [show 2 * (k + 1) = 2 * k + 1 + 1 by omega, List.range_succ, List.range_succ, List.replicate_succ', ltl_append, linesText_append, ← h]
    rw [List.map_append, List.map_append, List.append_assoc]
    congr 1
    simp [pat, linesText, ltl, lineText]

theorem pats_len (n : Nat) : (pats n).length = n := by simp [pats]

theorem empties_good (k : Nat) : ∀ x ∈ empties k, goodL x.2 := by
  intro x hx
  have := (List.mem_replicate.1 hx).2
  subst this
  intro y hy; cases hy

theorem long_over {s : ByteArray} (h : 1048576 < s.size) : derivT s = ⟨[], 0, 4⟩ := by unfold derivT; rw [if_pos h]

theorem long_even {s : ByteArray} {k : Nat} (hs : s.data.toList = pats (2 * k)) (hz : s.size ≤ 1048576) : derivT s = ⟨empties k, 0, 0⟩ :=
  text_derivT (empties_good k) (by rw [hs, pats_two]) hz

theorem words_empty {s : ByteArray} (h : s.data.toList = []) : lineR s = none := by
  cases hr : lineR s with
  | none => rfl
  | some x =>
    obtain ⟨f, c⟩ := x
    have := (lineR_text hr).1
    rw [h] at this
    simp [lineText] at this

theorem long_odd {s : ByteArray} {k : Nat} (hs : s.data.toList = pats (2 * k) ++ [10]) (hz : s.size ≤ 1048576) : derivT s = ⟨[], k + 1, 2⟩ := by
  have hsz : s.size = 2 * k + 1 := by rw [← list_size, hs, List.length_append, pats_len]; rfl
  unfold derivT
  rw [if_neg (by omega)]
  have hl : (linesText (ltl (empties k))).length = 2 * k := by rw [← pats_two, pats_len]
  have hk : (empties k).length = k := by simp [empties]
  have h1 := derivR_text (s := s) (empties k) (k + 2) [] 0 0 [10] (empties_good k) (Nat.zero_le _) (by rw [List.drop_zero, hs, pats_two])
  rw [hk, hl, Nat.zero_add, Nat.zero_add, List.nil_append] at h1
  rw [show s.size + 1 = k + (k + 2) by omega, h1]
  have hd : s.data.toList.drop (2 * k) = [] ++ 10 :: [] := by
    rw [hs, List.drop_append, pats_len, Nat.sub_self, List.drop_of_length_le (by rw [pats_len]; exact Nat.le_refl _)]; rfl
  have hL := lineT_text (s := s) (p := 2 * k) (a := []) (r := []) (by omega) (fun b hb => by cases hb) hd
  rw [show k + 2 = (k + 1) + 1 by omega]
  unfold derivR
  rw [if_neg (by omega), hL]
  simp only [ne_eq, not_true_eq_false, if_false]
  rw [words_empty (s := ⟨[].toArray⟩) rfl]

end Go.Proofs.YtcpgbgbhfkpehaaDoor
