/-
  latchetlaw28.lives.
-/
import Derived.Test.YtpejimlmokfppaaDoorDerivSame
namespace Go.Proofs.YtpejimlmokfppaaDoor
open Go.RowKit

theorem lineT_size {s : ByteArray} {p : Nat} (hp : p ≤ s.size) : (lineT s (p : Nat)).1.size ≤ s.size := by
  unfold lineT
  rw [if_neg (by omega)]
  split
  · simp only [ByteArray.size_extract]; omega
  · exact Nat.zero_le _

def dlText : ByteArray := ⟨#[43, 32, 49, 32, 33, 50, 10, 43, 10]⟩
def dlLines : List (Bool × List Nat) := [(false, [2, 5]), (false, [])]

theorem dl_text : linesText (ltl dlLines) = [43, 32, 49, 32, 33, 50, 10, 43, 10] := by decide +kernel
theorem dl_good : ∀ x ∈ dlLines, goodL x.2 := by
  intro x hx
  simp [dlLines] at hx
  rcases hx with rfl | rfl
  · intro y hy; simp at hy; omega
  · intro y hy; cases hy
theorem dl_read : derivT dlText = ⟨dlLines, 0, 0⟩ := text_derivT dl_good (by rw [dl_text]; rfl) (by decide)

end Go.Proofs.YtpejimlmokfppaaDoor
