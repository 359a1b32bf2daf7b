/-
  latchetlaw26: lives, and the walks of LubyTells and LubySums.
-/
import Derived.Test.YtojodmfkenfhlaaLubyAt
import Derived.Test.YtojodmfkenfhlaaLubyWalk
import Derived.Test.YtojodmfkenfhlaaInts
namespace Go.Proofs.Ytojodmfkenfhlaa
open Go.RowKit

theorem ref_Spare (a : Option Addr) (n cap : Nat) (l : List Int) (room : Int) (w : World) (ha : IntsAt w a l) (hl : l.length = n) (hn : n ≤ 1000) (hr2 : room ≤ 9223372036854775807) :
    Calls Try.prog 8 #[.slice a n cap, .int .i64 room] w fun e w' =>
      ∃ v, e = .returned v ∧ Own w' w.heap.size 3 v ((ascend n ((sortedN (gi l) n).take (many n room))).map natV) ∧ Kp (fun _ => False) w w' := by
  have h := ref_Spare_in a n cap l room (max room 0) (sortedN (gi l) n) w ha hl hn (sorted_goes (gi l) n) (by omega) (by omega)
  exact h

theorem example_goes : Goes (gi [3, 5, 2, 5]) 4 [1, 3, 0] := by
  refine ⟨?_, ?_⟩
  · intro i
    constructor
    · intro h; simp at h; rcases h with rfl | rfl | rfl <;> decide
    · rintro ⟨h1, h2⟩
      match i, h1, h2 with
      | 0, _, _ => decide
      | 1, _, _ => decide
      | 2, _, h2 => exact absurd h2 (by decide)
      | 3, _, _ => decide
  · simp [bef, gi]

theorem example_list : (ascend 4 ((sortedN (gi [3, 5, 2, 5]) 4).take (many 4 2))).map natV = ([1, 3] : List Int).map (Value.int .i64) := by
  rw [Goes.unique (sorted_goes (gi [3, 5, 2, 5]) 4) example_goes]
  rfl

set_option maxHeartbeats 400000 in
theorem luby_lives (w : World) : Calls Try.prog 9 #[] w fun e w' => e = .returned (.bool true) ∧ Kp (fun _ => False) w w' := by
  have r7 : ((row (7 : Int).toNat : Nat) : Int) = 4 := by decide +kernel
  have r8 : ((row (8 : Int).toNat : Nat) : Int) = 1 := by decide +kernel
  go_enter Try.func9, Try.ntmps9
  go_wp2_with fail
  refine (luby_At 7 _ (by omega)).mono ?_
  rintro e w' ⟨rfl, rfl⟩
  rw [r7]
  go_wp2_with fail
  refine (luby_At 8 _ (by omega)).mono ?_
  rintro e w' ⟨rfl, rfl⟩
  rw [r8]
  go_wp2_with fail
  refine (luby_Spare _ 4 _ [3, 5, 2, 5] 2 _ ((Blk.new w _ 3).rowAt (n := 4) rfl) rfl (by omega) (by omega) (by omega)).mono ?_
  rintro e w1 ⟨v, rfl, hO, hK⟩
  rw [example_list] at hO
  obtain ⟨a, cap, rfl, _, _, _, hrow⟩ := hO.form
  rw [show (([1, 3] : List Int).map (Value.int .i64)).length = 2 from rfl]
  go_wp2_with fail
  have hrow1 : IntsAt (w1.alloc (.cells #[.int .i64 1, .int .i64 3] 3)) a [1, 3] := RowAt.kp hrow ((Kp.refl (fun _ => False) w1).alloc _) (by simp)
  refine (ref_Ints _ _ 2 2 _ _ [1, 3] [1, 3] _ hrow1 ((Blk.new w1 _ 3).rowAt (n := 2) rfl) rfl rfl (by omega)).mono ?_
  rintro e w2 ⟨rfl, m, rfl⟩
  have b1 : (([1, 3] : List Int) == [1, 3]) = true := by decide
  rw [b1]
  go_wp2_with fail
  go_ret
  exact ⟨rfl, ((((Kp.refl _ w).alloc _).trans hK (fun _ _ h => h)).alloc _).drewN m⟩

end Go.Proofs.Ytojodmfkenfhlaa
