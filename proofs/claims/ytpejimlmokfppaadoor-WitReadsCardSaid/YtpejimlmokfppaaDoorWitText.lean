/-
  A witness's text, and runs that came in. wit.Write.
-/
import Derived.Test.YtpejimlmokfppaaDoorDerivSame
import Derived.Test.YtpejimlmokfppaaDoorOctSame
import Derived.Test.YtpejimlmokfppaaDoorSteps
import Derived.Deep.RegionHeld3
namespace Go.Proofs.YtpejimlmokfppaaDoor
open Go.RowKit

/-- a slice of truths that reads l -/
def BoolsSl (w : World) (v : Value) (l : List Bool) : Prop := ∃ a cap, v = .slice a l.length cap ∧ l.length ≤ cap ∧ cap ≤ maxLen ∧ (a = none → cap = 0) ∧ RowAt w a (l.map Value.bool)

theorem BoolsSl.kp {w w' : World} {v : Value} {l : List Bool} (h : BoolsSl w v l) (k : Kp (fun _ => False) w w') : BoolsSl w' v l := by
  obtain ⟨a, cap, e, h1, h2, h3, h4⟩ := h
  exact ⟨a, cap, e, h1, h2, h3, h4.kp k (fun _ _ h => h)⟩

/-- rows of truths at a place -/
def GridAt (w : World) (a : Option Addr) (L : List (List Bool)) : Prop := ∃ rs : List Value, RowAt w a rs ∧ rs.length = L.length ∧ ∀ (k : Nat) (r : Value) (x : List Bool), rs[k]? = some r → L[k]? = some x → BoolsSl w r x
def GridSl (w : World) (v : Value) (L : List (List Bool)) : Prop := ∃ a cap, v = .slice a L.length cap ∧ L.length ≤ cap ∧ cap ≤ maxLen ∧ (a = none → cap = 0) ∧ GridAt w a L

theorem GridAt.kp {w w' : World} {a : Option Addr} {L : List (List Bool)} (h : GridAt w a L) (k : Kp (fun _ => False) w w') : GridAt w' a L := by
  obtain ⟨rs, h1, h2, h3⟩ := h
  exact ⟨rs, h1.kp k (fun _ _ h => h), h2, fun i r x hr hx => (h3 i r x hr hx).kp k⟩
theorem GridSl.kp {w w' : World} {v : Value} {L : List (List Bool)} (h : GridSl w v L) (k : Kp (fun _ => False) w w') : GridSl w' v L := by
  obtain ⟨a, cap, e, h1, h2, h3, h4⟩ := h
  exact ⟨a, cap, e, h1, h2, h3, h4.kp k⟩

def gb (L : List (List Bool)) (k : Nat) : List Bool := L[k]?.getD []
theorem gb_at {L : List (List Bool)} {k : Nat} (h : k < L.length) : L[k]? = some (gb L k) := by unfold gb; rw [List.getElem?_eq_getElem h]; rfl

theorem GridAt.row {w : World} {a : Option Addr} {L : List (List Bool)} (h : GridAt w a L) {k : Nat} (hk : k < L.length) : ∃ b off v, a = some ⟨b, off, none⟩ ∧ w.cell? ⟨b, off + k, none⟩ = some v ∧ BoolsSl w v (gb L k) := by
  obtain ⟨rs, h1, h2, h3⟩ := h
  have hk' : k < rs.length := by rw [h2]; exact hk
  have hr : rs[k]? = some rs[k] := List.getElem?_eq_getElem hk'
  obtain ⟨b, off, rfl, c⟩ := h1 k _ hr
  exact ⟨b, off, _, rfl, c, h3 k _ _ hr (gb_at hk)⟩

/-- the lines of a witness -/
def witLines (kind prop : Int) (start : List Bool) (ins : List (List Bool)) : List (List UInt8) :=
  [Lib.itoa kind, 98 :: Lib.itoa prop] ++ (if kind = 1 then signs start :: ins.map signs else []) ++ [[46]]

def witText (kind prop : Int) (start : List Bool) (ins : List (List Bool)) : List UInt8 :=
  if kind < 0 ∨ 2 < kind ∨ prop < 0 then [] else (witLines kind prop start ins).flatMap (fun l => l ++ [10])

theorem join_feed : ∀ {xs : List (List UInt8)}, xs ≠ [] → Lib.join xs [10] ++ [10] = xs.flatMap (fun l => l ++ [10])
  | [], h => absurd rfl h
  | x :: r, _ => by
    rw [Lib.join_cons, List.flatMap_cons]
    have : ∀ r : List (List UInt8), Lib.joinTail [10] r ++ [10] = 10 :: r.flatMap (fun l => l ++ [10]) := by
      intro r
      induction r with
      | nil => rfl
      | cons y r ih =>
        unfold Lib.joinTail at ih ⊢
        rw [List.map_cons, List.flatten_cons, List.append_assoc, ih, List.flatMap_cons]
        simp
    rw [List.append_assoc, this r]
    simp

end Go.Proofs.YtpejimlmokfppaaDoor
