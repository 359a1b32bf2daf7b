/-
  latchetlaw06.HeapNone: its walk.
-/
import Derived.Test.YtccdjjlbiibjgaaHeapLives
namespace Go.Proofs.Ytccdjjlbiibjgaa
open Go.RowKit

set_option maxHeartbeats 1000000 in
theorem heapNone_walk (id : Int) (_wi : (Lit.int .i64 id).wf = true) (b : Int) (_wb : (Lit.int .u64 b).wf = true) (w : World) :
    Calls Try.prog 4 #[.int .i64 id, .int .u64 b] w fun e w' => e = .returned (.bool true) ∧ Below w.heap.size w w' := by
  have hz : (FloatKind.f64.format.order 0 0 == some .eq) = true := by decide +kernel
  go_enter Try.func4, Try.ntmps4
  go_wp2_with fail
  refine (Pop_nil _).mono ?_
  rintro e w' ⟨rfl, rfl⟩
  go_wp2_with fail
  refine (Push_nil _ _).mono ?_
  rintro e w' ⟨rfl, rfl⟩
  go_wp2_with fail
  refine (scores_Of _ _).mono ?_
  rintro e w' ⟨rfl, rfl⟩
  go_wp2_with fail
  refine (Set_nil _ _ _).mono ?_
  rintro e w' ⟨rfl, rfl⟩
  go_wp2_with fail
  refine (Score_nil _ _).mono ?_
  rintro e w' ⟨rfl, rfl⟩
  go_wp2_with fail
  refine (Has_nil _ _).mono ?_
  rintro e w' ⟨rfl, rfl⟩
  go_wp2_with fail
  refine (Len_nil _).mono ?_
  rintro e w' ⟨rfl, rfl⟩
  go_wp2_with fail
  refine (List_nil _).mono ?_
  rintro e w2 ⟨rfl, hK⟩
  go_wp2_with fail
  refine (Clone_nil _).mono ?_
  rintro e w' ⟨rfl, rfl⟩
  go_wp2_with fail
  refine (heap_lives _).mono ?_
  rintro e w3 ⟨rfl, hK3⟩
  have hend := (hK.trans hK3 (fun _ _ h => h)).below (Nat.le_refl _) (fun _ _ h => h)
  go_wp2_with fail
  go_ret
  exact ⟨rfl, hend⟩

end Go.Proofs.Ytccdjjlbiibjgaa
