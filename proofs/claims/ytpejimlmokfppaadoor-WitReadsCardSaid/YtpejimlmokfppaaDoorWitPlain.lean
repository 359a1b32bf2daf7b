/-
  A witness as text: what is read. No program in sight.
-/
import Derived.Test.YtpejimlmokfppaaDoorShift
import Derived.Test.YtpejimlmokfppaaDoorOctBits
namespace Go.Proofs.YtpejimlmokfppaaDoor
open Go.RowKit

structure WitD where
  kind : Nat
  prop : Nat
  start : List Bool
  ins : List (List Bool)

/-- so many values -/
def rowR (t : ByteArray) (many : Int) : Option (List Bool) := if bitsC t = 0 ∧ ((bitsR t).length : Int) = many then some (bitsR t) else none

/-- the number behind a b -/
def propR (t : ByteArray) : Option Nat :=
  if 0 < t.size ∧ bt t 0 = 98 ∧ (natN (t.extract 1 t.size) 0).2.2 = 0 ∧ (natN (t.extract 1 t.size) 0).2.1 = (t.extract 1 t.size).size then some (natN (t.extract 1 t.size) 0).1 else none

/-- the witness behind one more line; none: the line is none -/
def stepR (t : ByteArray) (k : Nat) (la inp : Int) (w : WitD) : Option WitD :=
  if k = 0 then if t.size = 1 ∧ 48 ≤ bt t 0 ∧ bt t 0 ≤ 50 then some { w with kind := bt t 0 - 48 } else none
  else if k = 1 then (propR t).map (fun n => { w with prop := n })
  else if w.kind ≠ 1 then none
  else if k = 2 then (rowR t la).map (fun l => { w with start := l })
  else (rowR t inp).map (fun l => { w with ins := w.ins ++ [l] })

/-- whether a line is the last one -/
def lastR (t : ByteArray) (k : Nat) (w : WitD) : Bool := decide (t = ⟨#[46]⟩ ∧ (k = 2 ∧ w.kind ≠ 1 ∨ 3 < k))

inductive WitO where
  | bad (at_ e : Nat)
  | ok (w : WitD)

def witR (s : ByteArray) (la inp : Int) : Nat → Nat → Nat → WitD → WitO
  | 0, p, _, _ => .bad p 3
  | f + 1, p, k, w =>
    if (lineT s (p : Nat)).2.2 ≠ 0 then .bad p (lineT s (p : Nat)).2.2
    else if lastR (lineT s (p : Nat)).1 k w then if (lineT s (p : Nat)).2.1 < s.size then .bad (lineT s (p : Nat)).2.1 2 else .ok w
    else match stepR (lineT s (p : Nat)).1 k la inp w with
      | none => .bad p 2
      | some w' => witR s la inp f (lineT s (p : Nat)).2.1 (k + 1) w'

def wit0 : WitD := ⟨0, 0, [], []⟩

/-- what is read of a text -/
def witT (s : ByteArray) (la inp : Int) : WitO := if la < 0 ∨ inp < 0 then .bad 0 1 else witR s la inp (s.size + 2) 0 0 wit0

/-- the witness, the place, the error -/
def WitO.w : WitO → WitD
  | .bad _ _ => wit0
  | .ok w => w
def WitO.at_ (s : ByteArray) : WitO → Nat
  | .bad p _ => p
  | .ok _ => s.size
def WitO.e : WitO → Nat
  | .bad _ e => e
  | .ok _ => 0

/-- lines' last: a text that is at an end has no line -/
theorem lineT_over {s : ByteArray} {p : Nat} (h : p = s.size) : (lineT s (p : Nat)).2.2 = 3 := by
  subst h
  unfold lineT
  rw [if_neg (by omega), Int.toNat_natCast]
  rcases feed_cases s s.size with ⟨i, _, h1, h2, _⟩ | ⟨hf, _⟩
  · omega
  · rw [hf]

end Go.Proofs.YtpejimlmokfppaaDoor
