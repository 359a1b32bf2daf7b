/-
  latchetlaw04: lives, and RandNone's walk.
-/
import Derived.Test.YtmfhbjfphohfkaaRandWalks
namespace Go.Proofs.Ytmfhbjfphohfkaa
open Go.RowKit

theorem told_zero : (told (nxt 0) == 16294208416658607535) = true := by decide +kernel

theorem rand_lives (w : World) :
    Calls Try.prog 8 #[] w fun e w' => e = .returned (.bool true) ∧ Kp (fun _ => False) w w' := by
  have ht := told_zero
  go_enter Try.func8, Try.ntmps8
  go_wp2_with (go_at_call 6; refine (rand_New _ _).mono ?_; rintro e w' ⟨rfl, rfl⟩)
  refine (rand_Next _ 0 _ (by simp) (by simp)).mono ?_
  rintro e w' ⟨rfl, rfl⟩
  go_wp2
  go_ret
  exact ⟨rfl, (Kp.refl _ w).alloc _⟩

theorem randNone_walk (n : Int) (_wn : (Lit.int .i64 n).wf = true) (w : World) :
    Calls Try.prog 5 #[.int .i64 n] w fun e w' => e = .returned (.bool true) ∧ Below w.heap.size w w' := by
  go_enter Try.func5, Try.ntmps5
  go_wp2_with fail
  refine (rand_Next_nil _).mono ?_
  rintro e w' ⟨rfl, rfl⟩
  go_wp2_with fail
  refine (rand_Below_nil _ _).mono ?_
  rintro e w' ⟨rfl, rfl⟩
  go_wp2_with fail
  refine (rand_Bit_nil _).mono ?_
  rintro e w' ⟨rfl, rfl⟩
  go_wp2_with fail
  refine (rand_Perm_none none _ _ (.inl rfl)).mono ?_
  rintro e w' ⟨rfl, rfl⟩
  go_wp2_with fail
  refine (rand_Clone_nil _).mono ?_
  rintro e w' ⟨rfl, rfl⟩
  go_wp2_with fail
  refine (rand_lives _).mono ?_
  rintro e w' ⟨rfl, hk⟩
  go_wp2
  go_ret
  exact ⟨rfl, hk.below (Nat.le_refl _) (fun _ _ h => h)⟩

end Go.Proofs.Ytmfhbjfphohfkaa
