/-
  The order by which luby.Spare sorts: a total one; what sorting by it leaves.
-/
import Derived.Test.YtojodmfkenfhlaaLubyCmp
import Derived.Shelf.SlSortCmp.Insertion
import Derived.Sort.Statements
namespace Go.Proofs.Ytojodmfkenfhlaa
open Go.RowKit

def cfS (f : Nat → Int) (x y : Nat) : Int := orI (Lib.compareInt (f y) (f x)) (Lib.compareInt x y)

theorem cfS_neg (f : Nat → Int) (x y : Nat) : cfS f x y < 0 ↔ bef f x y := by
  unfold cfS orI Lib.compareInt bef
  by_cases h1 : f y < f x
  · simp [h1]
  · by_cases h2 : f x < f y
    · have : f y > f x := h2
      simp [h1, this]
      omega
    · have e : f y = f x := by omega
      simp only [e, Int.lt_irrefl, if_false, gt_iff_lt, if_true]
      by_cases h3 : (x : Int) < (y : Int)
      · simp [h3]; omega
      · by_cases h4 : (y : Int) < (x : Int)
        · simp [h3, h4]; omega
        · simp [h3, h4]; omega

def cfF (f : Nat → Int) (n : Nat) (x y : Fin n) : Int := cfS f x.val y.val

theorem lt_cfF (f : Nat → Int) (n : Nat) (x y : Fin n) : ltOf (cfF f n) x y = true ↔ bef f x.val y.val := by
  unfold ltOf cfF
  rw [decide_eq_true_iff]
  exact cfS_neg f _ _

theorem lt_cfF_false (f : Nat → Int) (n : Nat) (x y : Fin n) : ltOf (cfF f n) x y = false ↔ ¬ bef f x.val y.val := by
  rw [← lt_cfF]; simp

theorem swo_cfF (f : Nat → Int) (n : Nat) : Sort.SWO (ltOf (cfF f n)) where
  irrefl x := by rw [lt_cfF_false]; exact fun h => bef_irrefl h
  trans x y z h1 h2 := by rw [lt_cfF] at *; unfold bef at *; omega
  ntrans x y z h1 h2 := by rw [lt_cfF_false] at *; unfold bef at *; omega

theorem tot_cfF (f : Nat → Int) (n : Nat) (x y : Fin n) (h1 : ltOf (cfF f n) x y = false) (h2 : ltOf (cfF f n) y x = false) : x = y := by
  rw [lt_cfF_false] at h1 h2
  unfold bef at h1 h2
  exact Fin.ext (by omega)

/-- the places that may be let go, as they stand -/
def idx (f : Nat → Int) (k : Nat) : List Nat := (List.range k).filter (fun i => decide (2 < f i))

theorem idx_snoc (f : Nat → Int) (k : Nat) : idx f (k + 1) = idx f k ++ (if 2 < f k then [k] else []) := by
  unfold idx
  rw [List.range_succ, List.filter_append]
  by_cases h : 2 < f k <;> simp [h]

theorem idx_mem (f : Nat → Int) (k i : Nat) : i ∈ idx f k ↔ i < k ∧ 2 < f i := by simp [idx]

theorem idx_len (f : Nat → Int) (k : Nat) : (idx f k).length ≤ k := by
  have := List.length_filter_le (fun i => decide (2 < f i)) (List.range k)
  simpa [idx] using this

theorem idx_nodup (f : Nat → Int) (k : Nat) : (idx f k).Nodup := List.Pairwise.sublist List.filter_sublist List.nodup_range

/-- .. as numbers below n -/
def idxF (f : Nat → Int) (n : Nat) : List (Fin n) := (idx f n).attach.map (fun x => ⟨x.1, ((idx_mem f n x.1).1 x.2).1⟩)

theorem idxF_val (f : Nat → Int) (n : Nat) : (idxF f n).map Fin.val = idx f n := by
  unfold idxF
  rw [List.map_map]
  exact List.attach_map_subtype_val _

/-- sorted so -/
def sortedF (f : Nat → Int) (n : Nat) : List (Fin n) := (idxF f n).mergeSort (fun x y => !(ltOf (cfF f n) y x))

def sortedN (f : Nat → Int) (n : Nat) : List Nat := (sortedF f n).map Fin.val

theorem sortedN_perm (f : Nat → Int) (n : Nat) : (sortedN f n).Perm (idx f n) := by
  have h := (List.mergeSort_perm (idxF f n) (fun x y => !(ltOf (cfF f n) y x))).map Fin.val
  rw [idxF_val] at h
  exact h

theorem sorted_goes (f : Nat → Int) (n : Nat) : Goes f n (sortedN f n) := by
  refine ⟨fun i => by rw [(sortedN_perm f n).mem_iff, idx_mem], ?_⟩
  have hnd : (sortedN f n).Nodup := (sortedN_perm f n).nodup_iff.2 (idx_nodup f n)
  have hs : (sortedF f n).Pairwise (fun a b => (!(ltOf (cfF f n) b a)) = true) := by
    refine List.pairwise_mergeSort (le := fun x y => !(ltOf (cfF f n) y x)) ?_ ?_ _
    · intro a b c h1 h2
      simp only [Bool.not_eq_true'] at *
      exact (swo_cfF f n).ntrans c b a h2 h1
    · intro a b
      simp only [Bool.or_eq_true, Bool.not_eq_true']
      rw [lt_cfF_false, lt_cfF_false]
      unfold bef
      omega
  unfold sortedN
  rw [List.pairwise_map]
  have hnd2 : (sortedF f n).Pairwise (fun a b => a.val ≠ b.val) := by
    unfold sortedN List.Nodup at hnd
    rw [List.pairwise_map] at hnd
    exact hnd
  refine (hs.and hnd2).imp ?_
  rintro a b ⟨h1, h2⟩
  simp only [Bool.not_eq_true'] at h1
  rw [lt_cfF_false] at h1
  unfold bef at *
  omega

/-- there is one such row -/
theorem Goes.unique {f : Nat → Int} {n : Nat} {S T : List Nat} (hS : Goes f n S) (hT : Goes f n T) : S = T := by
  refine List.Perm.eq_of_pairwise (le := bef f) (fun a b _ _ h1 h2 => by unfold bef at *; omega) hS.ord hT.ord ?_
  rw [List.perm_ext_iff_of_nodup hS.nodup hT.nodup]
  intro i
  rw [hS.mem, hT.mem]

end Go.Proofs.Ytojodmfkenfhlaa
