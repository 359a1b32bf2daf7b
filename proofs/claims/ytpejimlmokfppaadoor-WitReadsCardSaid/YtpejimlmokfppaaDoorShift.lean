/-
  A number read from a place of a text is the number read from the rest of it. No program in sight.
-/
import Derived.Test.YtpejimlmokfppaaDoorNumer
namespace Go.Proofs.YtpejimlmokfppaaDoor
open Go.RowKit

theorem bt_rest (s : ByteArray) (p i : Nat) : bt (s.extract p s.size) i = bt s (p + i) := by
  by_cases h : i < (s.extract p s.size).size
  · have h2 : p + i < s.size := by rw [ByteArray.size_extract] at h; omega
    obtain ⟨b, hb, hb2⟩ := byte_at h
    obtain ⟨c, hc, hc2⟩ := byte_at h2
    rw [Lib.extract_to_end, List.getElem?_drop, hc] at hb
    rw [← hb2, ← hc2, Option.some.inj hb]
  · have h2 : ¬ p + i < s.size := by rw [ByteArray.size_extract] at h; omega
    unfold bt
    rw [dif_neg h, dif_neg h2]

theorem runL_rest (s : ByteArray) (p : Nat) : ∀ f i, runL (s.extract p s.size) f i = runL s f (p + i)
  | 0, i => rfl
  | f + 1, i => by
    simp only [runL, bt_rest]
    rw [runL_rest s p f (i + 1), Nat.add_assoc]

theorem endOf_rest {s : ByteArray} {p i : Nat} (h : p + i ≤ s.size) : endOf (s.extract p s.size) i + p = endOf s (p + i) := by
  unfold endOf
  rw [runL_rest, ByteArray.size_extract, show min s.size s.size - p - i = s.size - (p + i) by omega]
  omega

theorem numb_rest (s : ByteArray) (p i : Nat) : ∀ k, numb (s.extract p s.size) i k = numb s (p + i) k
  | 0 => rfl
  | k + 1 => by
    simp only [numb, bt_rest]
    rw [numb_rest s p i k, Nat.add_assoc]

/-- the number at a place, by the rest's -/
theorem natN_rest {s : ByteArray} {p : Nat} (h : p ≤ s.size) :
    natN s p = ((natN (s.extract p s.size) 0).1, if (natN (s.extract p s.size) 0).2.2 = 0 then (natN (s.extract p s.size) 0).2.1 + p else 0, (natN (s.extract p s.size) 0).2.2) := by
  have he := endOf_rest (s := s) (p := p) (i := 0) (by omega)
  rw [Nat.add_zero] at he
  have hz : (s.extract p s.size).size = s.size - p := by rw [ByteArray.size_extract]; omega
  have hge := endOf_ge (s.extract p s.size) 0
  have hb : bt (s.extract p s.size) 0 = bt s p := by rw [bt_rest, Nat.add_zero]
  obtain ⟨E, hE⟩ : ∃ E, endOf (s.extract p s.size) 0 = E := ⟨_, rfl⟩
  rw [hE] at he hge
  have hR : natN (s.extract p s.size) 0 = if 0 = s.size - p then (0, 0, 3) else if E = 0 ∨ bt s p = 48 ∧ 0 + 1 < E then (0, 0, 2) else if 9 < E - 0 then (0, 0, 5) else (numb s p (E - 0), E, 0) := by
    unfold natN
    rw [hz, hb, hE, numb_rest]; rfl
  have hL : natN s p = if p = s.size then (0, 0, 3) else if E + p = p ∨ bt s p = 48 ∧ p + 1 < E + p then (0, 0, 2) else if 9 < E + p - p then (0, 0, 5) else (numb s p (E + p - p), E + p, 0) := by
    unfold natN
    rw [← he]
  by_cases c1 : p = s.size
  · rw [if_pos c1] at hL; rw [if_pos (by omega)] at hR
    rw [hL, hR]; rfl
  rw [if_neg c1] at hL; rw [if_neg (by omega)] at hR
  by_cases c2 : E = 0 ∨ bt s p = 48 ∧ 0 + 1 < E
  · rw [if_pos (by omega)] at hL; rw [if_pos c2] at hR
    rw [hL, hR]; rfl
  rw [if_neg (by omega)] at hL; rw [if_neg c2] at hR
  by_cases c3 : 9 < E - 0
  · rw [if_pos (by omega)] at hL; rw [if_pos c3] at hR
    rw [hL, hR]; rfl
  rw [if_neg (by omega)] at hL; rw [if_neg c3] at hR
  rw [hL, hR]
  simp only [if_true]
  rw [show E + p - p = E - 0 by omega]

end Go.Proofs.YtpejimlmokfppaaDoor
