/-
  luby.Spare's comparison: cmp.Or of two ints, and the closure.
-/
import Derived.Test.YtojodmfkenfhlaaRows
import Derived.Test.YtojodmfkenfhlaaShelf
import Derived.Test.YtojodmfkenfhlaaLubySpare
import Derived.Deep.QuietTactic
import Derived.BigQuiet
import Derived.Deep.RegionWith
import Derived.Sort.Grow
namespace Go.Proofs.Ytojodmfkenfhlaa
open Go.RowKit

/-- the first of two that is not 0 -/
def orI (x y : Int) : Int := if x = 0 then y else x

set_option maxHeartbeats 400000 in
theorem cmp_Or (g : Nat) (x y : Int) (w : World) (h0 : w.cell? ⟨g, 0, none⟩ = some (.int .i64 x)) (h1 : w.cell? ⟨g, 1, none⟩ = some (.int .i64 y)) :
    Calls Try.prog 16 #[.slice (some ⟨g, 0, none⟩) 2 2] w fun e w' => e = .returned (.int .i64 (orI x y)) ∧ w = w' := by
  by_cases hx : x = 0
  · have HO := Lib.hid (show orI x y = y by simp [orI, hx])
    subst hx
    by_cases hy : y = 0
    · subst hy
      go_enter Try.func16, Try.ntmps16
      go_wp2
      refine wp_loop_rounds 3 ?_
      rw [rounds_succ]
      go_wp2
      rw [rounds_succ]
      go_wp2
      rw [rounds_succ]
      go_wp2
      go_ret
      rw [HO.out]
      exact ⟨rfl, rfl⟩
    · have t : (y != 0) = true := by simp [hy]
      go_enter Try.func16, Try.ntmps16
      go_wp2
      refine wp_loop_rounds 3 ?_
      rw [rounds_succ]
      go_wp2
      rw [rounds_succ]
      go_wp2
      go_ret
      rw [HO.out]
      exact ⟨rfl, rfl⟩
  · have HO := Lib.hid (show orI x y = x by simp [orI, hx])
    have t : (x != 0) = true := by simp [hx]
    go_enter Try.func16, Try.ntmps16
    go_wp2
    refine wp_loop_rounds 3 ?_
    rw [rounds_succ]
    go_wp2
    go_ret
    rw [HO.out]
    exact ⟨rfl, rfl⟩

set_option maxHeartbeats 1000000 in
theorem spare_cmp (B b off n cap : Nat) (l : List Int) (i j : Nat) (w : World) (hc : w.cell? ⟨B, 0, none⟩ = some (.slice (some ⟨b, off, none⟩) n cap)) (ha : IntsAt w (some ⟨b, off, none⟩) l) (hl : l.length = n) (hi : i < n) (hj : j < n) :
    Calls Try.prog 15 #[.int .i64 i, .int .i64 j, .pointer (some ⟨B, 0, none⟩)] w fun e w' =>
      e = .returned (.int .i64 (orI (Lib.compareInt (gi l j) (gi l i)) (Lib.compareInt i j))) ∧ ∃ q os, w' = Sort.grow (w.drewN q) os := by
  obtain ⟨b1, o1, e1, ci⟩ := ha.get (j := i) (by omega)
  obtain ⟨b2, o2, e2, cj⟩ := ha.get (j := j) (by omega)
  obtain ⟨rfl, rfl⟩ : b = b1 ∧ off = o1 := by simpa using e1
  obtain ⟨rfl, rfl⟩ : b = b2 ∧ off = o2 := by simpa using e2
  clear e1 e2 ha
  have HL := Lib.hid hl; clear hl
  have i1 : (i : Int) < (n : Int) := by omega
  have j1 : (j : Int) < (n : Int) := by omega
  go_enter Try.func15, Try.ntmps15
  go_wp2
  go_region_with (first | (go_at_call 17; refine (Try.cmp_Compare_int _ _ _).mono ?_; rintro e w' ⟨rfl, rfl⟩) | (go_at_call 16; refine (cmp_Or w.heap.size (Lib.compareInt (gi l j) (gi l i)) (Lib.compareInt i j) _ (by simp) (by simp)).mono ?_; rintro e w' ⟨rfl, rfl⟩))
  all_goals go_wp2
  all_goals go_ret
  all_goals exact ⟨rfl, 1, #[.cells #[.int .i64 (Lib.compareInt (gi l j) (gi l i)), .int .i64 (Lib.compareInt i j)] 3], by rw [← Sort.alloc_eq_grow]; rfl⟩

end Go.Proofs.Ytojodmfkenfhlaa
