/-
  Literals, and a derivation's lines, as text: what is read. No program in sight.
-/
import Derived.Test.YtpejimlmokfppaaDoorOctNat
import Derived.Test.YtpejimlmokfppaaDoorLinePlain
import Derived.Test.YtpejimlmokfppaaDoorWordWalk
namespace Go.Proofs.YtpejimlmokfppaaDoor
open Go.RowKit

/-- a literal's word begins with the sign of an inverse -/
def negW (w : ByteArray) : Bool := decide (0 < w.size ∧ bt w 0 = 33)
def digW (w : ByteArray) : ByteArray := if negW w then w.extract 1 w.size else w

/-- the literal of a word -/
def litR (w : ByteArray) : Option Nat :=
  if (natN (digW w) 0).2.2 = 0 ∧ (natN (digW w) 0).2.1 = (digW w).size ∧ (natN (digW w) 0).1 ≤ 16777216 then some (2 * (natN (digW w) 0).1 + (if negW w then 1 else 0)) else none

def litsR : List ByteArray → Option (List Nat)
  | [] => some []
  | w :: ws => match litR w, litsR ws with
    | some x, some l => some (x :: l)
    | _, _ => none

theorem litsR_append : ∀ a b : List ByteArray, litsR (a ++ b) = match litsR a, litsR b with
    | some x, some y => some (x ++ y)
    | _, _ => none
  | [], b => by simp only [List.nil_append, litsR]; cases litsR b <;> rfl
  | w :: a, b => by
    rw [List.cons_append]
    simp only [litsR]
    rw [litsR_append a b]
    cases litR w <;> cases litsR a <;> cases litsR b <;> rfl

theorem litsR_len : ∀ {a : List ByteArray} {l : List Nat}, litsR a = some l → l.length = a.length
  | [], l, h => by simp [litsR] at h; subst h; rfl
  | w :: a, l, h => by
    simp only [litsR] at h
    cases h1 : litR w with
    | none => rw [h1] at h; simp at h
    | some x =>
      cases h2 : litsR a with
      | none => rw [h1, h2] at h; simp at h
      | some y =>
        rw [h1, h2] at h
        simp at h
        subst h
        simp [litsR_len h2]

theorem litsR_bad {a : List ByteArray} {k : Nat} {w : ByteArray} (hk : a[k]? = some w) (h : litR w = none) : litsR a = none := by
  have hl : k < a.length := (List.getElem?_eq_some_iff.1 hk).1
  have e : a = a.take k ++ w :: a.drop (k + 1) := by
    have h1 := List.take_append_drop k a
    rw [List.drop_eq_getElem_cons hl] at h1
    rw [List.getElem?_eq_getElem hl] at hk
    rw [Option.some.inj hk] at h1
    exact h1.symm
  rw [e, litsR_append]
  simp only [litsR, h]
  cases litsR (a.take k) <;> rfl

theorem litsR_snoc {a : List ByteArray} {l : List Nat} {w : ByteArray} {x : Nat} (h1 : litsR a = some l) (h2 : litR w = some x) : litsR (a ++ [w]) = some (l ++ [x]) := by
  rw [litsR_append, h1]
  simp [litsR, h2]

/-- the line of a text without its end -/
def lineR (s : ByteArray) : Option (Bool × List Nat) :=
  match wordsB s with
  | [] => none
  | w :: ws => if w = ⟨#[43]⟩ then (litsR ws).map (fun l => (false, l)) else if w = ⟨#[45]⟩ then (litsR ws).map (fun l => (true, l)) else none

structure DerR where
  l : List (Bool × List Nat)
  n : Nat
  e : Nat

def derivR (s : ByteArray) : Nat → List (Bool × List Nat) → Nat → Nat → DerR
  | 0, L, _, _ => ⟨L, 0, 0⟩
  | f + 1, L, p, n =>
    if s.size ≤ p then ⟨L, 0, 0⟩
    else if (lineT s (p : Nat)).2.2 ≠ 0 then ⟨[], n + 1, (lineT s (p : Nat)).2.2⟩
    else match lineR (lineT s (p : Nat)).1 with
      | none => ⟨[], n + 1, 2⟩
      | some x => derivR s f (L ++ [x]) (lineT s (p : Nat)).2.1 (n + 1)

/-- what is read of a text -/
def derivT (s : ByteArray) : DerR := if 1048576 < s.size then ⟨[], 0, 4⟩ else derivR s (s.size + 1) [] 0 0

end Go.Proofs.YtpejimlmokfppaaDoor
