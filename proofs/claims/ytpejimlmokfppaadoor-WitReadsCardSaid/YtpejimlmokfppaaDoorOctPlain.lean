/-
  Layer 1 in plain words: bytes of a string, the number at a place.
-/
import Derived.Test.YtpejimlmokfppaaDoorBase
import Derived.Laws.BitsAllLaws
namespace Go.Proofs.YtpejimlmokfppaaDoor
open Go.RowKit

/-- the byte at a place -/
def bt (s : ByteArray) (i : Nat) : Nat := if h : i < s.size then (s[i]'h).toNat else 0

theorem bt_eq {s : ByteArray} {i : Nat} (h : i < s.size) : (s[i]'h).toNat = bt s i := by simp [bt, h]
theorem bt_lt (s : ByteArray) (i : Nat) : bt s i < 256 := by
  unfold bt
  split
  · exact UInt8.toNat_lt _
  · decide

/-- the number at a place, by digits of seven bits: r rounds are left, k are done, n is what they came to -/
def getR (s : ByteArray) (at_ : Nat) : Nat → Nat → Nat → Nat × Nat × Nat
  | 0, _, _ => (0, 0, 5)
  | r + 1, k, n =>
    if at_ + k = s.size then (0, 0, 3)
    else if k = 4 ∧ 15 < bt s (at_ + k) then (0, 0, 5)
    else if 0 < k ∧ bt s (at_ + k) = 0 then (0, 0, 2)
    else if bt s (at_ + k) < 128 then (n + bt s (at_ + k) % 128 * 128 ^ k, at_ + k + 1, 0)
    else getR s at_ r (k + 1) (n + bt s (at_ + k) % 128 * 128 ^ k)

def getN (s : ByteArray) (at_ : Nat) : Nat × Nat × Nat := getR s at_ 5 0 0

/-- what Get tells, of any place -/
def getT (s : ByteArray) (x : Int) : Nat × Nat × Nat := if x < 0 ∨ (s.size : Int) < x then (0, 0, 1) else getN s x.toNat

theorem nat_or_add {n k y : Nat} (h : n < 2 ^ k) : n ||| (y * 2 ^ k) = n + y * 2 ^ k := by
  have h1 := Nat.two_pow_add_eq_or_of_lt h y
  rw [Nat.or_comm, Nat.mul_comm y, ← h1]
  omega

theorem or_u32 {n y : Nat} (hn : n < 4294967296) (hy : y < 4294967296) : bits .or .u32 (n : Int) (y : Int) = ((n ||| y : Nat) : Int) := Go.u32_or_nat n y hn hy

theorem and_127 (b : Nat) (h : b < 256) : bits .and .u8 (b : Int) 127 = ((b % 128 : Nat) : Int) := by
  have h1 := Go.u8_and_nat b 127 h (by decide)
  have h2 : b &&& 127 = b % 128 := by
    have := Nat.and_two_pow_sub_one_eq_mod b 7
    simpa using this
  rw [h2] at h1
  exact h1

theorem pow_128 (k : Nat) : 128 ^ k = 2 ^ (7 * k) := by rw [Nat.pow_mul]

/-- one digit is put to the number -/
theorem digit_step {n c k : Nat} (hn : n < 128 ^ k) (hc : c * 128 ^ k < 4294967296) (hk : 128 ^ k ≤ 4294967296) :
    bits .or .u32 (n : Int) (((c : Nat) : Int) % 4294967296 * 2 ^ (7 * k) % 4294967296) = ((n + c * 128 ^ k : Nat) : Int) := by
  have e1 : (((c : Nat) : Int) % 4294967296 * 2 ^ (7 * k) % 4294967296) = ((c * 128 ^ k : Nat) : Int) := by
    have hc' : c < 4294967296 := by
      have : c * 1 ≤ c * 128 ^ k := Nat.mul_le_mul_left c (Nat.pos_of_ne_zero (by simp))
      omega
    rw [pow_128] at hc ⊢
    rw [show ((c : Nat) : Int) % 4294967296 = (c : Int) from Int.emod_eq_of_lt (by omega) (by omega)]
    have : ((c : Nat) : Int) * 2 ^ (7 * k) = ((c * 2 ^ (7 * k) : Nat) : Int) := by simp
    rw [this]
    generalize c * 2 ^ (7 * k) = z at hc
    omega
  rw [e1, or_u32 (by omega) hc]
  rw [pow_128] at hn ⊢
  rw [nat_or_add hn]

theorem digit_step2 {n B k : Nat} (hn : n < 128 ^ k) (hc : B % 128 * 128 ^ k < 4294967296) (hk : 128 ^ k ≤ 4294967296) :
    bits .or .u32 (n : Int) ((B : Int) % 128 * 2 ^ (7 * k) % 4294967296) = ((n + B % 128 * 128 ^ k : Nat) : Int) := by
  have h := digit_step hn hc hk
  rw [← h]
  congr 3
  omega

end Go.Proofs.YtpejimlmokfppaaDoor
