/-
  latchetlaw26.LubyTells: its walk.
-/
import Derived.Test.YtojodmfkenfhlaaLubyLaws
namespace Go.Proofs.Ytojodmfkenfhlaa
open Go.RowKit

theorem i64_wf {n : Int} (h : (Lit.int .i64 n).wf = true) : -9223372036854775808 ≤ n ∧ n ≤ 9223372036854775807 := by
  simp [Lit.wf, IntKind.min, IntKind.max, IntKind.signed, IntKind.bits] at h
  omega

set_option maxHeartbeats 400000 in
theorem lubyTells_walk (x : Int) (wx : (Lit.int .i64 x).wf = true) (u : Int) (_wu : (Lit.int .i64 u).wf = true) (w : World) :
    Calls Try.prog 5 #[.int .i64 x, .int .i64 u] w fun e w' => e = .returned (.bool true) ∧ Below w.heap.size w w' := by
  have hx := (i64_wf wx).2
  clear wx
  have b1 : (((row x.toNat : Nat) : Int) == ((row x.toNat : Nat) : Int)) = true := by simp
  have b2 : (lim (row x.toNat) u == lim (row x.toNat) u) = true := by simp
  go_enter Try.func5, Try.ntmps5
  go_wp2_with fail
  refine (luby_At x _ hx).mono ?_
  rintro e w' ⟨rfl, rfl⟩
  go_wp2_with fail
  refine (ref_At x.toNat x _ (by omega) hx).mono ?_
  rintro e w' ⟨rfl, rfl⟩
  go_wp2_with fail
  refine (luby_Limit x u _ hx).mono ?_
  rintro e w' ⟨rfl, rfl⟩
  go_wp2_with fail
  refine (ref_Limit x u _ hx).mono ?_
  rintro e w' ⟨rfl, rfl⟩
  go_wp2_with fail
  refine (luby_lives _).mono ?_
  rintro e w' ⟨rfl, hk⟩
  go_wp2
  go_ret
  exact ⟨rfl, hk.below (Nat.le_refl _) (fun _ _ h => h)⟩

end Go.Proofs.Ytojodmfkenfhlaa
