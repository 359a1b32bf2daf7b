/-
  latchetlaw26.LubySums: its walk.
-/
import Derived.Test.YtojodmfkenfhlaaLubyLaws
namespace Go.Proofs.Ytojodmfkenfhlaa
open Go.RowKit

theorem u8_wf {n : Int} (h : (Lit.int .u8 n).wf = true) : 0 ≤ n ∧ n ≤ 255 := by
  simp [Lit.wf, IntKind.min, IntKind.max, IntKind.signed, IntKind.bits] at h
  omega

set_option maxHeartbeats 1000000 in
theorem lubySums_walk (k : Int) (wk : (Lit.int .u8 k).wf = true) (w : World) :
    Calls Try.prog 4 #[.int .u8 k] w fun e w' => e = .returned (.bool true) ∧ Below w.heap.size w w' := by
  obtain ⟨k0, k1⟩ := u8_wf wk
  clear wk
  obtain ⟨N, hN, hN1⟩ : ∃ N : Nat, k % 12 = (N : Int) ∧ N < 12 := ⟨(k % 12).toNat, by omega, by omega⟩
  go_enter Try.func4, Try.ntmps4
  go_wp2
  go_loop [4, 6] (fun v4 v6 => ∃ j p : Nat, j ≤ N ∧ v6 = .int .i64 (j + 1 : Nat) ∧ v4 = .int .i64 p ∧ p = 2 ^ j) (fun _ v6 => N + 1 - (intOf v6).toNat)
  case atStart => exact ⟨0, 1, Nat.zero_le _, rfl, rfl, rfl⟩
  case round =>
    obtain ⟨j, p, hj, rfl, rfl, hp⟩ := hrel
    have hp1 : p ≤ 2048 := by
      have := Nat.pow_le_pow_right (show 0 < 2 by decide) (show j ≤ 11 by omega)
      omega
    have hp2 : 1 ≤ p := by have := Nat.two_pow_pos j; omega
    have HP := Lib.hid hp; clear hp
    by_cases hlt : j < N
    · go_wp2
      go_round
      case rel => exact ⟨j + 1, 2 * p, by omega, by go_num, by go_num, by rw [HP.out, Nat.pow_succ]; omega⟩
      case measure => simp [intOf]; omega
    · have hjn : j = N := by omega
      subst hjn
      have HS := Lib.hid (show rowSum (2 * p - 1) = (j + 1) * p by rw [HP.out]; exact rowSum_all j hN1)
      go_wp2
      go_loopw [5, 7] (fun v5 v7 wr => ∃ i s : Nat, i ≤ 2 * p - 1 ∧ v7 = .int .i64 (i + 1 : Nat) ∧ v5 = .int .i64 s ∧ s = rowSum i ∧ wr = w) (fun _ v7 _ => 2 * p - (intOf v7).toNat)
      case atStart => exact ⟨0, 0, Nat.zero_le _, rfl, rfl, rfl, rfl⟩
      case round =>
        obtain ⟨i, s, hi, rfl, rfl, hs, rfl⟩ := hrel
        have hs1 := rowSum_le i (by omega)
        have hs2 : i * i ≤ 4096 * 4096 := Nat.mul_le_mul (by omega) (by omega)
        have hs3 : s ≤ 16777216 := by omega
        clear hs1 hs2
        have HSS := Lib.hid hs; clear hs
        have hr := row_le (i + 1) (i + 1) (Nat.le_refl _) (by omega)
        by_cases hlt2 : i < 2 * p - 1
        · have t1 : decide (((i + 1 : Nat) : Int) ≤ 2 * (p : Int) - 1) = true := by simp; omega
          go_wp2_with fail
          refine (luby_At _ _ (by omega)).mono ?_
          rintro e w' ⟨rfl, rfl⟩
          rw [show (((i : Int) + 1).toNat) = i + 1 from by omega]
          obtain ⟨R, hR⟩ : ∃ R, R = row (i + 1) := ⟨_, rfl⟩
          rw [← hR] at hr ⊢
          have HR := Lib.hid hR; clear hR
          go_wp2_with fail
          go_roundw
          case rel => exact ⟨i + 1, s + R, by omega, by go_num, by go_num, by rw [HSS.out, HR.out]; rfl, by first | rfl | trivial⟩
          case measure => simp [intOf]; omega
        · have hie : i = 2 * p - 1 := by omega
          have HE : Hid ((s : Int) = ((j : Int) + 1) * (p : Int)) := by
            show (s : Int) = ((j : Int) + 1) * (p : Int)
            rw [HSS.out, hie, HS.out]; push_cast; rfl
          have hm1 : ((j : Int) + 1) * (p : Int) ≤ 16777216 := by rw [← HE.out]; omega
          have hm2 : 0 ≤ ((j : Int) + 1) * (p : Int) := by rw [← HE.out]; omega
          have t2 : ((s : Int) == ((j : Int) + 1) * (p : Int)) = true := by rw [beq_iff_eq]; exact HE.out
          clear hie hr
          go_wp2_with fail
          refine (luby_lives _).mono ?_
          rintro e w' ⟨rfl, hk⟩
          go_wp2_with fail
          go_ret
          exact ⟨rfl, hk.below (Nat.le_refl _) (fun _ _ h => h)⟩

end Go.Proofs.Ytojodmfkenfhlaa
