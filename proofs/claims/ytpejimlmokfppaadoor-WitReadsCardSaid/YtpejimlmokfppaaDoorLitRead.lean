/-
  lit.Read and the reference's: the literal of a text.
-/
import Derived.Test.YtpejimlmokfppaaDoorDerivText
import Derived.Test.YtpejimlmokfppaaDoorOctNatWalk
namespace Go.Proofs.YtpejimlmokfppaaDoor
open Go.RowKit

theorem has33 (s : ByteArray) : Lib.hasPrefix s.data.toList [33] = negW s := by
  rw [Bool.eq_iff_iff, negW_iff]
  unfold Lib.hasPrefix
  cases s.data.toList with
  | nil => simp [List.isPrefixOf]
  | cons c r =>
    simp only [List.isPrefixOf_cons_cons, List.isPrefixOf_nil_left, Bool.and_true, beq_iff_eq, List.cons.injEq]
    constructor
    · rintro rfl; exact ⟨r, rfl, rfl⟩
    · rintro ⟨_, rfl, _⟩; rfl

theorem trim33 (s : ByteArray) : (⟨(Lib.trimPrefix s.data.toList [33]).toArray⟩ : ByteArray) = digW s := by
  apply ba_ext
  unfold Lib.trimPrefix
  rw [has33]
  by_cases h : negW s = true
  · obtain ⟨r, hr⟩ := (negW_iff s).1 h
    rw [if_pos h, digW_pos hr, hr]; rfl
  · rw [if_neg h, digW_neg h]

theorem digW_size (s : ByteArray) : (digW s).size ≤ s.size := by
  unfold digW
  split
  · rw [ByteArray.size_extract]; omega
  · exact Nat.le_refl _

theorem natT_zero (s : ByteArray) : natT s 0 = natN s 0 := by unfold natT; rw [if_neg (by omega)]; rfl

/-- a variable's literal -/
def ofL (v : Nat) (ng : Bool) : Int := if 16777216 < v then -1 else if ng then 2 * v + 1 else 2 * v

def litV : Option Nat → Value
  | some x => .tuple #[.int .i64 (x : Int), .int .i64 0]
  | none => .tuple #[.int .i64 0, .int .i64 2]

theorem litR_is {s : ByteArray} {v en er : Nat} (hN : natN (digW s) 0 = (v, en, er)) : litR s = if er = 0 ∧ en = (digW s).size ∧ v ≤ 16777216 then some (2 * v + (if negW s then 1 else 0)) else none := by
  unfold litR; rw [hN]

theorem natN_small {s : ByteArray} {p v en er : Nat} (hp : p ≤ s.size) (hN : natN s p = (v, en, er)) : v < 1000000000 ∧ en ≤ s.size := by
  by_cases he : er = 0
  · subst he
    obtain ⟨_, h2, h3, _⟩ := dec_natN hp hN
    exact ⟨h3, h2⟩
  · unfold natN at hN
    split at hN
    · simp only [Prod.mk.injEq] at hN; omega
    split at hN
    · simp only [Prod.mk.injEq] at hN; omega
    split at hN
    · simp only [Prod.mk.injEq] at hN; omega
    · simp only [Prod.mk.injEq] at hN; omega

end Go.Proofs.YtpejimlmokfppaaDoor
