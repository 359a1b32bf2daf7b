/-
  clause.Text.
-/
import Derived.Test.YtpejimlmokfppaaDoorLit
import Derived.Test.YtpejimlmokfppaaDoorDerivRead
import Derived.Test.YtpejimlmokfppaaDoorBuilder2
import Derived.Test.YtpejimlmokfppaaDoorOctText
namespace Go.Proofs.YtpejimlmokfppaaDoor
open Go.RowKit

def ltxt (l : Int) : ByteArray := ⟨(litText l).toArray⟩

theorem join_jn : ∀ xs : List (List UInt8), Lib.join xs [32] = jn xs
  | [] => rfl
  | a :: r => by
    rw [jn_flat, Lib.join_cons]
    unfold Lib.joinTail
    rw [List.flatMap]
    rfl

theorem jn_len : ∀ {xs : List (List UInt8)} {m : Nat}, (∀ x ∈ xs, x.length ≤ m) → (jn xs).length ≤ (m + 1) * xs.length
  | [], m, _ => by simp [jn]
  | a :: r, m, h => by
    rw [jn_flat, List.length_append, List.length_cons]
    have h1 := h a (by simp)
    have h2 : ∀ (r : List (List UInt8)), (∀ x ∈ r, x.length ≤ m) → (r.flatMap (fun x => 32 :: x)).length ≤ (m + 1) * r.length := by
      intro r
      induction r with
      | nil => intro _; simp
      | cons b r ih =>
        intro h
        have h3 := h b (by simp)
        have h4 := ih (fun x hx => h x (by simp [hx]))
        rw [List.flatMap_cons, List.length_append, List.length_cons, List.length_cons, Nat.mul_succ]
        omega
    have := h2 r (fun x hx => h x (by simp [hx]))
    rw [Nat.mul_succ]; omega

theorem made_strs (n : Nat) : madeCells #[.string .empty] n = (strs (List.replicate n .empty)).toArray := by
  apply Array.ext
  · simp [madeCells, strs]
  · intro i h1 h2
    simp [madeCells, strs, Nat.mod_one]

theorem strs_set (L : List ByteArray) (k : Nat) (x : ByteArray) : (strs L).toArray.setIfInBounds k (.string x) = (strs (L.set k x)).toArray := by simp [strs, List.map_set]
theorem strs_at {L : List ByteArray} {k : Nat} {x : ByteArray} (h : L[k]? = some x) : (strs L).toArray[k]? = some (.string x) := by simp [strs, h]

end Go.Proofs.YtpejimlmokfppaaDoor
