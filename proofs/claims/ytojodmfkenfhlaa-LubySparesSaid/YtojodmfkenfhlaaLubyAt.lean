/-
  luby.At, luby.Limit and their references: what they compute.
-/
import Derived.Test.YtojodmfkenfhlaaRows
import Derived.Test.YtojodmfkenfhlaaShelf
import Derived.Test.YtojodmfkenfhlaaLubyPlain
namespace Go.Proofs.Ytojodmfkenfhlaa
open Go.RowKit

theorem wrap_pow {k : Nat} (hk : k ≤ 62) : wrap64 ((2 : Int) ^ k) = ((2 ^ k : Nat) : Int) := by
  have h := pow_two_le hk
  have e : (2 : Int) ^ k = ((2 ^ k : Nat) : Int) := by simp
  rw [e]
  generalize 2 ^ k = A at h
  exact IntWalk.wrap64_in _ ⟨by omega, by omega⟩

theorem wrap_pow_sub {k : Nat} (hk : k ≤ 63) : wrap64 (wrap64 ((2 : Int) ^ k) - 1) = ((2 ^ k : Nat) : Int) - 1 := by
  by_cases h : k ≤ 62
  · rw [wrap_pow h]
    have h := pow_two_le h
    have := Nat.two_pow_pos k
    exact IntWalk.wrap64_in _ ⟨by omega, by omega⟩
  · have : k = 63 := by omega
    subst this
    decide +kernel

theorem len_le_63 {j : Nat} (h : j ≤ 9223372036854775807) (h0 : 0 < j) : Lib.bitLen j ≤ 63 := by
  obtain ⟨s1, s2, s3, s4⟩ := bitLen_spec (x := j) (by omega) h0
  rcases Nat.lt_or_ge 63 (Lib.bitLen j) with h1 | h1
  · have := pow_two_le (show 63 ≤ Lib.bitLen j - 1 by omega)
    omega
  · exact h1

set_option maxHeartbeats 400000 in
theorem luby_At (x : Int) (w : World) (hx : x ≤ 9223372036854775807) :
    Calls Try.prog 10 #[.int .i64 x] w fun e w' => e = .returned (.int .i64 (row x.toNat)) ∧ w = w' := by
  go_enter Try.func10, Try.ntmps10
  go_wp2
  go_loop [0] (fun v => ∃ i : Int, v = .int .i64 i ∧ i ≤ 9223372036854775807 ∧ row i.toNat = row x.toNat) (fun v => (intOf v).toNat)
  case atStart => exact ⟨x, rfl, hx, rfl⟩
  case round =>
    obtain ⟨i, rfl, hi, hr⟩ := hrel
    have HR := Lib.hid hr; clear hr
    by_cases h0 : 0 < i
    · obtain ⟨j, rfl⟩ : ∃ j : Nat, i = j := ⟨i.toNat, by omega⟩
      obtain ⟨s1, s2, s3, _⟩ := bitLen_spec (x := j) (by omega) (by omega)
      have s4 := len_le_63 (j := j) (by omega) (by omega)
      have HL := Lib.hid (@row_last j (by omega))
      have HT := Lib.hid (@row_step j (by omega) (by omega))
      have HM := Lib.hid (@row_less j (by omega) (by omega))
      go_wp2_with fail
      refine (Try.bits_Len _ _ (by omega) (by omega)).mono ?_
      rintro e w' ⟨rfl, rfl⟩
      rw [Int.toNat_natCast] at *
      generalize Lib.bitLen j = k at *
      have e1 := wrap_pow_sub s4
      have e2 := wrap_pow (k := k - 1) (by omega)
      generalize 2 ^ k = A at s2 HL HT HM e1
      generalize 2 ^ (k - 1) = B at s1 HL HT HM e2
      by_cases hq : j + 1 = A
      · have t : ((j : Int) == (A : Int) - 1) = true := by rw [beq_iff_eq]; omega
        have HQ := Lib.hid hq; clear hq
        go_wp2
        go_ret
        refine ⟨?_, rfl⟩
        rw [← HR.out, HL.out HQ.out, ← e2]
        rfl
      · have t : ((j : Int) == (A : Int) - 1) = false := by rw [beq_eq_false_iff_ne]; omega
        obtain ⟨m1, m2⟩ := HM.out hq
        have ht := HT.out hq
        have HT2 := Lib.hid ht
        clear ht hq
        go_wp2
        go_round
        case rel => exact ⟨_, rfl, by omega, by rw [← HR.out, HT2.out]; congr 1; omega⟩
        case measure => simp [intOf]; omega
    · have h1 : i.toNat = 0 := by omega
      rw [h1] at HR
      go_wp2
      go_ret
      exact ⟨by rw [← HR.out]; rfl, rfl⟩

/-- the row's number out of the greatest power -/
theorem row_of_pow {i m : Nat} (hi : i ≤ 9223372036854775807) (h1 : 2 ^ m ≤ i) (h2 : i < 2 * 2 ^ m) :
    (i + 1 = 2 * 2 ^ m → row i = 2 ^ m) ∧ (i + 1 ≠ 2 * 2 ^ m → row i = row (i + 1 - 2 ^ m) ∧ i + 1 - 2 ^ m < i) := by
  have hp := Nat.two_pow_pos m
  have e := bitLen_eq (x := i) (k := m) (by omega) h1 (by rw [Nat.pow_succ]; omega)
  have r1 := @row_last i (by omega)
  have r2 := @row_step i (by omega) (by omega)
  have r3 := @row_less i (by omega) (by omega)
  rw [e, Nat.pow_succ] at r1 r2 r3
  simp only [Nat.add_sub_cancel] at r1 r2 r3
  refine ⟨fun h => r1 (by omega), fun h => ⟨r2 (by omega), (r3 (by omega)).2⟩⟩

set_option maxHeartbeats 400000 in
theorem ref_At (n : Nat) : ∀ (x : Int) (w : World), x ≤ n → x ≤ 9223372036854775807 →
    Calls Try.prog 11 #[.int .i64 x] w fun e w' => e = .returned (.int .i64 (row x.toNat)) ∧ w = w' := by
  induction n with
  | zero =>
    intro x w h1 h2
    have h0 : x < 1 := by omega
    have e := Lib.hid (show x.toNat = 0 by omega)
    go_enter Try.func11, Try.ntmps11
    go_wp2_with fail
    go_ret
    rw [e.out]
    exact ⟨rfl, rfl⟩
  | succ n ih =>
    intro x w h1 h2
    have IH := Lib.hid ih; clear ih
    by_cases h0 : x < 1
    · have e := Lib.hid (show x.toNat = 0 by omega)
      go_enter Try.func11, Try.ntmps11
      go_wp2_with fail
      go_ret
      rw [e.out]
      exact ⟨rfl, rfl⟩
    · obtain ⟨i, rfl⟩ : ∃ i : Nat, x = i := ⟨x.toNat, by omega⟩
      have g0 : decide ((i : Int) < 1) = false := by simp; omega
      go_enter Try.func11, Try.ntmps11
      go_wp2_with fail
      go_loop [3] (fun v => ∃ m p : Nat, v = .int .i64 p ∧ p = 2 ^ m ∧ p ≤ i ∧ 0 < p) (fun v => i - (intOf v).toNat)
      case atStart => exact ⟨0, 1, rfl, rfl, by omega, by omega⟩
      case round =>
        obtain ⟨m, p, rfl, hp, hpi, hp0⟩ := hrel
        have hp62 : p ≤ 4611686018427387904 := by
          rcases Nat.lt_or_ge m 63 with h | h
          · have := pow_two_le (show m ≤ 62 by omega); omega
          · have := pow_two_le h; omega
        have HP := Lib.hid hp; clear hp
        by_cases hq : p ≤ i / 2
        · have t1 : decide ((p : Int) ≤ (i : Int) / 2) = true := by simp; omega
          go_wp2_with fail
          go_round
          case rel => exact ⟨m + 1, 2 * p, by go_num, by rw [HP.out, Nat.pow_succ]; omega, by omega, by omega⟩
          case measure => simp [intOf]; omega
        · have t1 : decide ((p : Int) ≤ (i : Int) / 2) = false := by simp; omega
          obtain ⟨r1, r2⟩ := row_of_pow (i := i) (m := m) (by omega) (by rw [← HP.out]; exact hpi) (by rw [← HP.out]; omega)
          rw [← HP.out] at r1 r2
          have R1 := Lib.hid r1; clear r1
          have R2 := Lib.hid r2; clear r2
          by_cases hl : i + 1 = 2 * p
          · have t2 : ((i : Int) == (p : Int) - 1 + (p : Int)) = true := by rw [beq_iff_eq]; omega
            have HL := Lib.hid hl; clear hl
            go_wp2_with fail
            go_ret
            rw [R1.out HL.out]
            exact ⟨rfl, rfl⟩
          · have t2 : ((i : Int) == (p : Int) - 1 + (p : Int)) = false := by rw [beq_eq_false_iff_ne]; omega
            obtain ⟨q1, q2⟩ := R2.out hl
            have Q1 := Lib.hid q1; clear q1
            go_wp2_with fail
            refine (IH.out ((i : Int) - (p : Int) + 1) _ (by omega) (by omega)).mono ?_
            rintro e w' ⟨rfl, rfl⟩
            go_wp2_with fail
            go_ret
            rw [Int.toNat_natCast, Q1.out, show ((i : Int) - (p : Int) + 1).toNat = i + 1 - p from by omega]
            exact ⟨rfl, rfl⟩

/-- the i-th limit -/
def lim (n : Nat) (u : Int) : Int := if 1125899906842624 < (n : Int) * max u 1 then 1125899906842624 else (n : Int) * max u 1

theorem div_lt_iff {n u M : Int} (hu : 1 ≤ u) : M / u < n ↔ M < n * u := Int.ediv_lt_iff_lt_mul (by omega)

set_option maxHeartbeats 400000 in
theorem luby_Limit (x u : Int) (w : World) (hx : x ≤ 9223372036854775807) :
    Calls Try.prog 12 #[.int .i64 x, .int .i64 u] w fun e w' => e = .returned (.int .i64 (lim (row x.toNat) u)) ∧ w = w' := by
  generalize hn : row x.toNat = n
  have HN := Lib.hid hn; clear hn
  obtain ⟨U, hU, hU1⟩ : ∃ U : Int, max u 1 = U ∧ 1 ≤ U := ⟨_, rfl, by omega⟩
  have HLim := Lib.hid (show lim n u = if 1125899906842624 < (n : Int) * U then 1125899906842624 else (n : Int) * U by unfold lim; rw [hU])
  by_cases h1 : 1125899906842624 < (n : Int) * U
  · have t : decide (1125899906842624 / U < (n : Int)) = true := by simpa using (div_lt_iff hU1).2 h1
    have H1 := Lib.hid h1; clear h1
    go_enter Try.func12, Try.ntmps12
    go_wp2_with fail
    refine (luby_At _ _ hx).mono ?_
    rintro e w' ⟨rfl, rfl⟩
    rw [HN.out]
    go_wp2_with fail
    go_ret
    rw [HLim.out, if_pos H1.out]
    exact ⟨rfl, rfl⟩
  · have t : decide (1125899906842624 / U < (n : Int)) = false := by rw [decide_eq_false_iff_not]; exact fun h => h1 ((div_lt_iff hU1).1 h)
    have h2 : (n : Int) * U ≤ 1125899906842624 := by omega
    have h3 : 0 ≤ (n : Int) * U := Int.mul_nonneg (by omega) (by omega)
    clear h1
    go_enter Try.func12, Try.ntmps12
    go_wp2_with fail
    refine (luby_At _ _ hx).mono ?_
    rintro e w' ⟨rfl, rfl⟩
    rw [HN.out]
    go_wp2_with fail
    go_ret
    rw [HLim.out, if_neg (by omega)]
    exact ⟨rfl, rfl⟩

set_option maxHeartbeats 400000 in
theorem ref_Limit (x u : Int) (w : World) (hx : x ≤ 9223372036854775807) :
    Calls Try.prog 13 #[.int .i64 x, .int .i64 u] w fun e w' => e = .returned (.int .i64 (lim (row x.toNat) u)) ∧ w = w' := by
  generalize hn : row x.toNat = n
  have HN := Lib.hid hn; clear hn
  by_cases hu : u < 1
  · have HLim := Lib.hid (show lim n u = if 1125899906842624 < (n : Int) * 1 then 1125899906842624 else (n : Int) * 1 by unfold lim; rw [show max u 1 = 1 from by omega])
    by_cases hn0 : n = 0
    · subst hn0
      go_enter Try.func13, Try.ntmps13
      go_wp2_with fail
      refine (ref_At x.toNat x _ (by omega) hx).mono ?_
      rintro e w' ⟨rfl, rfl⟩
      rw [HN.out]
      go_wp2_with fail
      go_ret
      rw [HLim.out]
      exact ⟨by simp, rfl⟩
    · have hn1 : 1 ≤ (n : Int) := by omega
      have g0 : decide (0 < n) = true := by simp; omega
      by_cases h1 : 1125899906842624 < (n : Int) * 1
      · have t : decide (1125899906842624 / (n : Int) < 1) = true := by rw [decide_eq_true_iff]; exact (div_lt_iff hn1).2 (by rw [Int.mul_comm]; exact h1)
        have H1 := Lib.hid h1; clear h1
        go_enter Try.func13, Try.ntmps13
        go_wp2_with fail
        refine (ref_At x.toNat x _ (by omega) hx).mono ?_
        rintro e w' ⟨rfl, rfl⟩
        rw [HN.out]
        go_wp2_with fail
        go_ret
        rw [HLim.out, if_pos H1.out]
        exact ⟨rfl, rfl⟩
      · have t : decide (1125899906842624 / (n : Int) < 1) = false := by rw [decide_eq_false_iff_not]; exact fun h => h1 (by rw [Int.mul_comm]; exact (div_lt_iff hn1).1 h)
        have h2 : (n : Int) * 1 ≤ 1125899906842624 := by omega
        have h3 : 0 ≤ (n : Int) * 1 := Int.mul_nonneg (by omega) (by omega)
        clear h1
        go_enter Try.func13, Try.ntmps13
        go_wp2_with fail
        refine (ref_At x.toNat x _ (by omega) hx).mono ?_
        rintro e w' ⟨rfl, rfl⟩
        rw [HN.out]
        go_wp2_with fail
        go_ret
        rw [HLim.out, if_neg (by omega)]
        exact ⟨by first | rfl | simp, rfl⟩
  · have HLim := Lib.hid (show lim n u = if 1125899906842624 < (n : Int) * u then 1125899906842624 else (n : Int) * u by unfold lim; rw [show max u 1 = u from by omega])
    by_cases hn0 : n = 0
    · subst hn0
      go_enter Try.func13, Try.ntmps13
      go_wp2_with fail
      refine (ref_At x.toNat x _ (by omega) hx).mono ?_
      rintro e w' ⟨rfl, rfl⟩
      rw [HN.out]
      go_wp2_with fail
      go_ret
      rw [HLim.out]
      exact ⟨by simp, rfl⟩
    · have hn1 : 1 ≤ (n : Int) := by omega
      have g0 : decide (0 < n) = true := by simp; omega
      by_cases h1 : 1125899906842624 < (n : Int) * u
      · have t : decide (1125899906842624 / (n : Int) < u) = true := by rw [decide_eq_true_iff]; exact (div_lt_iff hn1).2 (by rw [Int.mul_comm]; exact h1)
        have H1 := Lib.hid h1; clear h1
        go_enter Try.func13, Try.ntmps13
        go_wp2_with fail
        refine (ref_At x.toNat x _ (by omega) hx).mono ?_
        rintro e w' ⟨rfl, rfl⟩
        rw [HN.out]
        go_wp2_with fail
        go_ret
        rw [HLim.out, if_pos H1.out]
        exact ⟨rfl, rfl⟩
      · have t : decide (1125899906842624 / (n : Int) < u) = false := by rw [decide_eq_false_iff_not]; exact fun h => h1 (by rw [Int.mul_comm]; exact (div_lt_iff hn1).1 h)
        have h2 : (n : Int) * u ≤ 1125899906842624 := by omega
        have h3 : 0 ≤ (n : Int) * u := Int.mul_nonneg (by omega) (by omega)
        clear h1
        go_enter Try.func13, Try.ntmps13
        go_wp2_with fail
        refine (ref_At x.toNat x _ (by omega) hx).mono ?_
        rintro e w' ⟨rfl, rfl⟩
        rw [HN.out]
        go_wp2_with fail
        go_ret
        rw [HLim.out, if_neg (by omega)]
        exact ⟨by first | rfl | simp, rfl⟩

end Go.Proofs.Ytojodmfkenfhlaa
