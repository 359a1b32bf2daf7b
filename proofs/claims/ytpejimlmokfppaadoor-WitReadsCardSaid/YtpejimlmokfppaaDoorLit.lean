/-
  lit and latchetref02: a literal's text, and the literal of a text.
-/
import Derived.Test.YtpejimlmokfppaaDoorDerivPlain
import Derived.Test.YtpejimlmokfppaaDoorOctLives
import Derived.Test.YtpejimlmokfppaaDoorOctDec
namespace Go.Proofs.YtpejimlmokfppaaDoor
open Go.RowKit

def gl (l : Int) : Bool := decide (0 ≤ l ∧ l ≤ 33554433)

/-- a literal's text -/
def litText (l : Int) : List UInt8 := if gl l then (if l % 2 = 1 then 33 :: Lib.itoa (l / 2) else Lib.itoa (l / 2)) else [63]

theorem and_one (n : Int) : bits .and .i64 n 1 = n % 2 := by
  have h1 : (BitVec.ofInt 64 1).toNat = 2 ^ 1 - 1 := by decide
  have key : (BitVec.ofInt 64 n &&& BitVec.ofInt 64 1).toNat = (n % ((2 ^ 64 : Nat) : Int)).toNat % 2 ^ 1 := by
    rw [BitVec.toNat_and, BitVec.toNat_ofInt, h1, Nat.and_two_pow_sub_one_eq_mod]
  show IntKind.i64.wrap ((BitVec.ofInt 64 n &&& BitVec.ofInt 64 1).toNat : Nat) = n % 2
  rw [key, IntKind.wrap_i64]
  omega

theorem litSize (l : Int) : (litText l).length ≤ 23 := by
  unfold litText
  split
  · have := itoaLen (n := l / 2)
    rename_i hg
    have h : 0 ≤ l ∧ l ≤ 33554433 := by simpa [gl] using hg
    have := this (by omega) (by omega)
    split
    · simp; omega
    · omega
  · simp

end Go.Proofs.YtpejimlmokfppaaDoor
