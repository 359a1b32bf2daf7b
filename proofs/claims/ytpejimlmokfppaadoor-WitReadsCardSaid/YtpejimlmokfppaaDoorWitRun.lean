/-
  The lines of a witness, one behind the other: what has come of them so far, or how it ends. No program in sight.
-/
import Derived.Test.YtpejimlmokfppaaDoorWitBits
namespace Go.Proofs.YtpejimlmokfppaaDoor
open Go.RowKit

/-- one line more: how it ends, or what has come so far -/
def oneX {B : Nat} (la inp : Int) (k : Nat) (d : WitD) (x : LX B) : WitD ⊕ WitO :=
  if x.e ≠ 0 then .inr (.bad x.at_ x.e)
  else if lastR x.text k d then if x.next < B then .inr (.bad x.next 2) else .inr (.ok d)
  else match stepR x.text k la inp d with
    | none => .inr (.bad x.at_ 2)
    | some d' => .inl d'

def runX {B : Nat} (la inp : Int) : Nat → WitD → List (LX B) → WitD ⊕ WitO
  | _, d, [] => .inl d
  | k, d, x :: l => match oneX la inp k d x with
    | .inl d' => runX la inp (k + 1) d' l
    | .inr o => .inr o

theorem runX_snoc {B : Nat} {la inp : Int} (x : LX B) : ∀ (l : List (LX B)) (k : Nat) (d d' : WitD), runX la inp k d l = .inl d' → runX la inp k d (l ++ [x]) = oneX la inp (k + l.length) d' x
  | [], k, d, d', h => by
    simp only [runX] at h
    cases h
    simp only [List.nil_append, runX, List.length_nil, Nat.add_zero]
    cases oneX la inp k d x <;> rfl
  | y :: l, k, d, d', h => by
    simp only [runX] at h
    simp only [List.cons_append, runX, List.length_cons]
    cases hy : oneX la inp k d y with
    | inl d1 =>
      rw [hy] at h
      simp only at h ⊢
      rw [runX_snoc x l (k + 1) d1 d' h, show k + (l.length + 1) = k + 1 + l.length by omega]
    | inr o => rw [hy] at h; cases h

theorem runX_prefix {B : Nat} {la inp : Int} {o : WitO} : ∀ (l r : List (LX B)) (k : Nat) (d : WitD), runX la inp k d l = .inr o → runX la inp k d (l ++ r) = .inr o
  | [], _, _, _, h => by cases h
  | y :: l, r, k, d, h => by
    simp only [runX] at h
    simp only [List.cons_append, runX]
    cases hy : oneX la inp k d y with
    | inl d1 =>
      rw [hy] at h
      exact runX_prefix l r (k + 1) d1 h
    | inr o' => rw [hy] at h; exact h

/-- all of a text's lines: what is read of it -/
theorem runX_lines (s : ByteArray) (la inp : Int) : ∀ (f p k : Nat) (d : WitD) (hp : p ≤ s.size), s.size - p + 1 ≤ f → runX la inp k d (linesF s f p hp) = .inr (witR s la inp f p k d)
  | 0, p, k, d, hp, h => by omega
  | f + 1, p, k, d, hp, h => by
    have hx : linesF s (f + 1) p hp = lx s p hp :: if (lineT s (p : Nat)).2.2 = 0 then linesF s f (lineT s (p : Nat)).2.1 (lineT_next hp) else [] := rfl
    rw [hx]
    simp only [runX]
    have ho : oneX la inp k d (lx s p hp) = if (lineT s (p : Nat)).2.2 ≠ 0 then .inr (.bad p (lineT s (p : Nat)).2.2)
      else if lastR (lineT s (p : Nat)).1 k d then if (lineT s (p : Nat)).2.1 < s.size then .inr (.bad (lineT s (p : Nat)).2.1 2) else .inr (.ok d)
      else match stepR (lineT s (p : Nat)).1 k la inp d with
        | none => .inr (.bad p 2)
        | some d' => .inl d' := rfl
    rw [ho]
    simp only [witR]
    by_cases h0 : (lineT s (p : Nat)).2.2 = 0
    · have hE := lineT_end hp h0
      have hn : ¬ ((lineT s (p : Nat)).2.2 ≠ 0) := fun h => h h0
      rw [if_neg hn, if_neg hn, if_pos h0]
      by_cases hl : lastR (lineT s (p : Nat)).1 k d = true
      · rw [if_pos hl, if_pos hl]
        by_cases hz : (lineT s (p : Nat)).2.1 < s.size
        · rw [if_pos hz, if_pos hz]
        · rw [if_neg hz, if_neg hz]
      · rw [if_neg hl, if_neg hl]
        cases hs : stepR (lineT s (p : Nat)).1 k la inp d with
        | none => rfl
        | some d' =>
          simp only
          exact runX_lines s la inp f _ (k + 1) d' (lineT_next hp) (by omega)
    · rw [if_pos h0, if_pos h0]

end Go.Proofs.YtpejimlmokfppaaDoor
