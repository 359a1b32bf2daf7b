/-
  latchetref28.Same, deriv.Learned; what is read, as rows of lines.
-/
import Derived.Test.YtpejimlmokfppaaDoorDerivWr
import Derived.Test.YtpejimlmokfppaaDoorInts
import Derived.Deep.QuietTactic
import Derived.BigQuiet
namespace Go.Proofs.YtpejimlmokfppaaDoor
open Go.RowKit

theorem LnsAt.drewN {w : World} {a : Option Addr} {L : List (Bool × List Int)} (h : LnsAt w a L) (q : Nat) : LnsAt (w.drewN q) a L := h.kp ((Kp.refl _ _).drewN q)

/-- how many lines are learned -/
def learnt (L : List (Bool × List Int)) : Nat := (L.filter (fun x => !x.1)).length

theorem learnt_take {L : List (Bool × List Int)} {k : Nat} (h : k < L.length) : learnt (L.take (k + 1)) = learnt (L.take k) + (if (li L k).1 then 0 else 1) := by
  have e : L.take (k + 1) = L.take k ++ [li L k] := by
    rw [List.take_succ_eq_append_getElem h]
    congr 2
    unfold li; rw [List.getElem?_eq_getElem h]; rfl
  rw [e]
  unfold learnt
  rw [List.filter_append, List.length_append]
  congr 1
  cases h : (li L k).1 <;> simp [h]

theorem learnt_le (L : List (Bool × List Int)) : learnt L ≤ L.length := List.length_filter_le _ _

/-- lines of numbers, as lines of ints -/
def toI (L : List (Bool × List Nat)) : List (Bool × List Int) := L.map (fun x => (x.1, x.2.map (fun (n : Nat) => (n : Int))))

theorem litText_lt {x : Nat} (h : x ≤ 33554433) : litText (x : Int) = lt x := by
  unfold litText lt
  rw [if_pos (by simp [gl]; omega)]
  by_cases ho : x % 2 = 1
  · rw [if_pos (by omega), if_pos ho, show (x : Int) / 2 = ((x / 2 : Nat) : Int) by omega, itoa_nat]
  · rw [if_neg (by omega), if_neg ho, show (x : Int) / 2 = ((x / 2 : Nat) : Int) by omega, itoa_nat]

theorem lti_toI {L : List (Bool × List Nat)} (hg : ∀ x ∈ L, goodL x.2) : lti (toI L) = ltl L := by
  unfold lti toI ltl
  rw [List.map_map]
  apply List.map_congr_left
  intro x hx
  simp only [Function.comp_apply, List.map_map, Prod.mk.injEq, true_and]
  apply List.map_congr_left
  intro y hy
  exact litText_lt (hg x hx y hy)

end Go.Proofs.YtpejimlmokfppaaDoor
