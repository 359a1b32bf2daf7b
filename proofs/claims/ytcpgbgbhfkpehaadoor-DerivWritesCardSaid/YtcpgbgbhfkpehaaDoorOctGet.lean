/-
  octet.Get and its reference: what they compute.
-/
import Derived.Test.YtcpgbgbhfkpehaaDoorRows
import Derived.Test.YtcpgbgbhfkpehaaDoorOctPlain
namespace Go.Proofs.YtcpgbgbhfkpehaaDoor
open Go.RowKit

theorem octet_out (s : ByteArray) (x : Int) (w : World) :
    Calls Tryd.prog 70 #[.string s, .int .i64 x] w fun e w' => e = .returned (.bool (decide (x < 0) || decide ((s.size : Int) < x))) ∧ w = w' := by
  by_cases h : x < 0
  · go_enter Tryd.func70, Tryd.ntmps70
    go_wp2
    go_ret
    exact ⟨by simp [h], rfl⟩
  · go_enter Tryd.func70, Tryd.ntmps70
    go_wp2
    go_ret
    exact ⟨by simp; omega, rfl⟩

def tripV (r : Nat × Nat × Nat) : Value := .tuple #[.int .u32 r.1, .int .i64 r.2.1, .int .i64 r.2.2]

/-- what one round of getR comes to -/
theorem getR_step (s : ByteArray) (at_ r k n : Nat) :
    getR s at_ (r + 1) k n = if at_ + k = s.size then (0, 0, 3)
    else if k = 4 ∧ 15 < bt s (at_ + k) then (0, 0, 5)
    else if 0 < k ∧ bt s (at_ + k) = 0 then (0, 0, 2)
    else if bt s (at_ + k) < 128 then (n + bt s (at_ + k) % 128 * 128 ^ k, at_ + k + 1, 0)
    else getR s at_ r (k + 1) (n + bt s (at_ + k) % 128 * 128 ^ k) := rfl

theorem pow_le {k : Nat} (h : k ≤ 4) : 128 ^ k ≤ 268435456 := Nat.pow_le_pow_right (show 0 < 128 by decide) h

set_option maxRecDepth 100000 in
set_option maxHeartbeats 1000000 in
theorem octet_Get_in (s : ByteArray) (at_ : Nat) (w : World) (hs : s.size ≤ 9223372036854775000) (ha : at_ ≤ s.size) :
    Calls Tryd.prog 15 #[.string s, .int .i64 at_] w fun e w' => e = .returned (tripV (getN s at_)) ∧ w = w' := by
  have o1 : (decide ((at_ : Int) < 0) || decide ((s.size : Int) < (at_ : Int))) = false := by simp; omega
  go_enter Tryd.func15, Tryd.ntmps15
  go_wp2_with fail
  refine (octet_out _ _ _).mono ?_
  rintro e w' ⟨rfl, rfl⟩
  rw [o1]
  go_wp2_with fail
  go_loop [7, 13] (fun v7 v13 => ∃ k n : Nat, v13 = .int .i64 k ∧ v7 = .int .u32 n ∧ k ≤ 5 ∧ at_ + k ≤ s.size ∧ n < 128 ^ k ∧ getR s at_ (5 - k) k n = getN s at_) (fun _ v13 => 5 - (intOf v13).toNat)
  case atStart => exact ⟨0, 0, rfl, rfl, by omega, by omega, by decide, rfl⟩
  case round =>
    obtain ⟨k, n, rfl, rfl, hk, hak, hn, ht⟩ := hrel
    have HN := Lib.hid hn; clear hn
    by_cases h5 : k < 5
    · have HT := Lib.hid ht; clear ht
      have hst := getR_step s at_ (5 - k - 1) k n
      rw [show 5 - k - 1 + 1 = 5 - k from by omega] at hst
      have HST := Lib.hid hst; clear hst
      by_cases he : at_ + k = s.size
      · have HR := Lib.hid (show getR s at_ (5 - k) k n = (0, 0, 3) by rw [HST.out, if_pos he])
        have t1 : ((at_ : Int) + (k : Int) == (s.size : Int)) = true := by rw [beq_iff_eq]; omega
        clear he
        go_wp2_with fail
        go_ret3
        rw [← HT.out, HR.out]
        exact ⟨rfl, rfl⟩
      · have hlt : at_ + k < s.size := by omega
        have t1 : ((at_ : Int) + (k : Int) == (s.size : Int)) = false := by rw [beq_eq_false_iff_ne]; omega
        have hl2 : (at_ : Int) + (k : Int) < (s.size : Int) := by omega
        have hb2 := bt_lt s (at_ + k)
        obtain ⟨B, hB⟩ : ∃ B, B = bt s (at_ + k) := ⟨_, rfl⟩
        have hb := bt_eq hlt
        rw [if_neg he, ← hB] at HST
        rw [← hB] at hb2 hb
        clear hB
        have ea := and_127 B hb2
        have hp := pow_le (show k ≤ 4 by omega)
        by_cases h4 : k = 4
        · subst h4
          by_cases hbig : 15 < B
          · rw [if_pos ⟨rfl, hbig⟩] at HST
            go_wp2_with fail
            go_ret3
            rw [← HT.out, HST.out]
            exact ⟨rfl, rfl⟩
          · rw [if_neg (fun h => hbig h.2)] at HST
            by_cases hz : B = 0
            · subst hz
              rw [if_pos ⟨by omega, rfl⟩] at HST
              go_wp2_with fail
              go_ret3
              rw [← HT.out, HST.out]
              exact ⟨rfl, rfl⟩
            · have tz : ((B : Int) == 0) = false := by rw [beq_eq_false_iff_ne]; omega
              rw [if_neg (fun h => hz h.2), if_pos (by omega)] at HST
              have hc : B % 128 * 128 ^ 4 < 4294967296 := by omega
              have ed := digit_step2 (n := n) (B := B) (k := 4) HN.out hc (by omega)
              rw [show (2 : Int) ^ (7 * 4) = 268435456 from by decide, show ((B : Int) % 128 * 268435456 % 4294967296) = (B : Int) % 128 * 268435456 from by omega] at ed
              generalize n + B % 128 * 128 ^ 4 = X at ed HST
              clear hp hc
              go_wp2_with fail
              go_ret3
              rw [← HT.out, HST.out]
              exact ⟨rfl, rfl⟩
        · have h4i : ¬ (k : Int) = 4 := by omega
          have hp3 : 128 ^ k ≤ 2097152 := Nat.pow_le_pow_right (show 0 < 128 by decide) (show k ≤ 3 by omega)
          have hc : B % 128 * 128 ^ k < 4294967296 := by
            have := Nat.mul_le_mul (show B % 128 ≤ 127 by omega) hp3
            omega
          have ed := digit_step2 (n := n) (B := B) (k := k) HN.out hc (by omega)
          rw [if_neg (by omega)] at HST
          have HX := Lib.hid (show n + B % 128 * 128 ^ k < 128 ^ (k + 1) by
            rw [Nat.pow_succ]
            have := HN.out
            have := Nat.mul_le_mul_right (128 ^ k) (show B % 128 ≤ 127 by omega)
            omega)
          generalize n + B % 128 * 128 ^ k = X at ed HST HX
          clear hp hp3 hc
          by_cases h0 : 0 < k
          · by_cases hz : B = 0
            · subst hz
              rw [if_pos ⟨h0, rfl⟩] at HST
              go_wp2_with fail
              go_ret3
              rw [← HT.out, HST.out]
              exact ⟨rfl, rfl⟩
            · have tz : ((B : Int) == 0) = false := by rw [beq_eq_false_iff_ne]; omega
              rw [if_neg (fun h => hz h.2)] at HST
              by_cases hsm : B < 128
              · rw [if_pos hsm] at HST
                go_wp2_with fail
                go_ret3
                rw [← HT.out, HST.out]
                exact ⟨rfl, rfl⟩
              · rw [if_neg hsm] at HST
                go_wp2_with fail
                go_round
                case rel => exact ⟨k + 1, X, by go_num, rfl, by omega, by omega, HX.out, by rw [← HT.out, HST.out]; rfl⟩
                case measure => simp [intOf]; omega
          · rw [if_neg (fun h => h0 h.1)] at HST
            by_cases hsm : B < 128
            · rw [if_pos hsm] at HST
              go_wp2_with fail
              go_ret3
              rw [← HT.out, HST.out]
              exact ⟨rfl, rfl⟩
            · rw [if_neg hsm] at HST
              go_wp2_with fail
              go_round
              case rel => exact ⟨k + 1, X, by go_num, rfl, by omega, by omega, HX.out, by rw [← HT.out, HST.out]; rfl⟩
              case measure => simp [intOf]; omega
    · have hk5 : k = 5 := by omega
      subst hk5
      have HT := Lib.hid ht; clear ht
      go_wp2_with fail
      go_ret3
      rw [← HT.out]
      exact ⟨rfl, rfl⟩

theorem octet_Get (s : ByteArray) (x : Int) (w : World) (hs : s.size ≤ 9223372036854775000) :
    Calls Tryd.prog 15 #[.string s, .int .i64 x] w fun e w' => e = .returned (tripV (getT s x)) ∧ w = w' := by
  by_cases h : x < 0 ∨ (s.size : Int) < x
  · have HT := Lib.hid (show getT s x = (0, 0, 1) by unfold getT; rw [if_pos h])
    have o1 : (decide (x < 0) || decide ((s.size : Int) < x)) = true := by simpa using h
    clear h
    go_enter Tryd.func15, Tryd.ntmps15
    go_wp2_with fail
    refine (octet_out _ _ _).mono ?_
    rintro e w' ⟨rfl, rfl⟩
    rw [o1]
    go_wp2_with fail
    go_ret3
    rw [HT.out]
    exact ⟨rfl, rfl⟩
  · obtain ⟨at_, rfl⟩ : ∃ at_ : Nat, x = at_ := ⟨x.toNat, by omega⟩
    have e : getT s (at_ : Int) = getN s at_ := by unfold getT; rw [if_neg h, Int.toNat_natCast]
    rw [e]
    exact octet_Get_in s at_ w hs (by omega)

set_option maxRecDepth 100000 in
set_option maxHeartbeats 1000000 in
theorem ref_Get_in (s : ByteArray) (at_ : Nat) (w : World) (hs : s.size ≤ 9223372036854775000) (ha : at_ ≤ s.size) :
    Calls Tryd.prog 16 #[.string s, .int .i64 at_] w fun e w' => e = .returned (tripV (getN s at_)) ∧ w = w' := by
  have o1 : decide ((at_ : Int) < 0) = false := by simp
  have o2 : decide ((s.size : Int) < (at_ : Int)) = false := by simp; omega
  have o3 : decide (s.size < at_) = false := by simp; omega
  go_enter Tryd.func16, Tryd.ntmps16
  go_wp2_with fail
  go_loop [1, 7, 8, 9] (fun v1 v7 v8 v9 => ∃ k n P A : Nat, v9 = .int .i64 k ∧ v7 = .int .u64 n ∧ v8 = .int .u64 P ∧ v1 = .int .i64 A ∧ A = at_ + k ∧ P = 128 ^ k ∧ k ≤ 4 ∧ A ≤ s.size ∧ n < 128 ^ k ∧ getR s at_ (5 - k) k n = getN s at_) (fun _ _ _ v9 => 5 - (intOf v9).toNat)
  case atStart => exact ⟨0, 0, 1, at_, rfl, rfl, rfl, rfl, rfl, rfl, by omega, by omega, by decide, rfl⟩
  case round =>
    obtain ⟨k, n, P, A, rfl, rfl, rfl, rfl, hA, hP, hk, hak, hn, ht⟩ := hrel
    have HA := Lib.hid hA
    have hst := getR_step s at_ (5 - k - 1) k n
    rw [show 5 - k - 1 + 1 = 5 - k from by omega, ← hA, ← hP] at hst
    rw [← hP] at hn
    clear hA
    have HP := Lib.hid hP; clear hP
    have HT := Lib.hid ht; clear ht
    have HST := Lib.hid hst; clear hst
    have hP28 : P ≤ 268435456 := by rw [HP.out]; exact pow_le hk
    have hP0 : 1 ≤ P := by rw [HP.out]; exact Nat.pos_of_ne_zero (by simp)
    by_cases he : A = s.size
    · have HR := Lib.hid (show getR s at_ (5 - k) k n = (0, 0, 3) by rw [HST.out, if_pos he])
      have t1 : ((A : Int) == (s.size : Int)) = true := by rw [beq_iff_eq]; omega
      clear he HST
      go_wp2_with fail
      go_ret3
      rw [← HT.out, HR.out]
      exact ⟨rfl, rfl⟩
    · have hlt : A < s.size := by omega
      have t1 : ((A : Int) == (s.size : Int)) = false := by rw [beq_eq_false_iff_ne]; omega
      have hb2 := bt_lt s A
      obtain ⟨B, hB⟩ : ∃ B, B = bt s A := ⟨_, rfl⟩
      have hb := bt_eq hlt
      rw [if_neg he, ← hB] at HST
      rw [← hB] at hb2 hb
      clear hB
      obtain ⟨Y, hY⟩ : ∃ Y, Y = B % 128 * P := ⟨_, rfl⟩
      have hy : (B : Int) % 128 * (P : Int) = (Y : Int) := by rw [hY]; push_cast; rfl
      have hY1 : Y ≤ 127 * P := by rw [hY]; exact Nat.mul_le_mul_right P (by omega)
      rw [← hY] at HST
      have HX := Lib.hid (show n + Y < 128 ^ (k + 1) by rw [Nat.pow_succ, ← HP.out]; omega)
      have HP1 := Lib.hid (show P * 128 = 128 ^ (k + 1) by rw [HP.out, Nat.pow_succ])
      by_cases h4 : k = 4
      · subst h4
        by_cases hbig : 15 < B
        · rw [if_pos ⟨rfl, hbig⟩] at HST
          clear hY
          go_wp2_with fail
          go_ret3
          rw [← HT.out, HST.out]
          exact ⟨rfl, rfl⟩
        · rw [if_neg (fun h => hbig h.2)] at HST
          by_cases hz : B = 0
          · subst hz
            rw [if_pos ⟨by omega, rfl⟩] at HST
            clear hY
            go_wp2_with fail
            go_ret3
            rw [← HT.out, HST.out]
            exact ⟨rfl, rfl⟩
          · have tz : ((B : Int) == 0) = false := by rw [beq_eq_false_iff_ne]; omega
            rw [if_neg (fun h => hz h.2), if_pos (by omega)] at HST
            have hn28 : n < 268435456 := by omega
            have hY2 : Y ≤ 15 * 268435456 := by rw [hY]; exact Nat.mul_le_mul (by omega) (by omega)
            clear hY
            go_wp2_with fail
            go_ret3
            rw [← HT.out, HST.out]
            exact ⟨rfl, rfl⟩
      · have h4i : ¬ (k : Int) = 4 := by omega
        have hP21 : P ≤ 2097152 := by rw [HP.out]; exact Nat.pow_le_pow_right (show 0 < 128 by decide) (show k ≤ 3 by omega)
        rw [if_neg (fun h => h4 h.1)] at HST
        clear hY
        by_cases h0 : 0 < k
        · by_cases hz : B = 0
          · subst hz
            rw [if_pos ⟨h0, rfl⟩] at HST
            go_wp2_with fail
            go_ret3
            rw [← HT.out, HST.out]
            exact ⟨rfl, rfl⟩
          · have tz : ((B : Int) == 0) = false := by rw [beq_eq_false_iff_ne]; omega
            rw [if_neg (fun h => hz h.2)] at HST
            by_cases hsm : B < 128
            · rw [if_pos hsm] at HST
              go_wp2_with fail
              go_ret3
              rw [← HT.out, HST.out]
              exact ⟨rfl, rfl⟩
            · rw [if_neg hsm] at HST
              go_wp2_with fail
              go_round
              case rel => exact ⟨k + 1, n + Y, P * 128, A + 1, by go_num, by go_num, by go_num, by go_num, by rw [HA.out]; omega, HP1.out, by omega, by omega, HX.out, by rw [← HT.out, HST.out]; rfl⟩
              case measure => simp [intOf]; omega
        · rw [if_neg (fun h => h0 h.1)] at HST
          by_cases hsm : B < 128
          · rw [if_pos hsm] at HST
            go_wp2_with fail
            go_ret3
            rw [← HT.out, HST.out]
            exact ⟨rfl, rfl⟩
          · rw [if_neg hsm] at HST
            go_wp2_with fail
            go_round
            case rel => exact ⟨k + 1, n + Y, P * 128, A + 1, by go_num, by go_num, by go_num, by go_num, by rw [HA.out]; omega, HP1.out, by omega, by omega, HX.out, by rw [← HT.out, HST.out]; rfl⟩
            case measure => simp [intOf]; omega

theorem ref_Get (s : ByteArray) (x : Int) (w : World) (hs : s.size ≤ 9223372036854775000) :
    Calls Tryd.prog 16 #[.string s, .int .i64 x] w fun e w' => e = .returned (tripV (getT s x)) ∧ w = w' := by
  by_cases h : x < 0 ∨ (s.size : Int) < x
  · have HT := Lib.hid (show getT s x = (0, 0, 1) by unfold getT; rw [if_pos h])
    by_cases h1 : x < 0
    · have o1 : decide (x < 0) = true := by simpa using h1
      clear h
      go_enter Tryd.func16, Tryd.ntmps16
      go_wp2_with fail
      go_ret3
      rw [HT.out]
      exact ⟨rfl, rfl⟩
    · have o1 : decide (x < 0) = false := by simpa using h1
      have o2 : decide ((s.size : Int) < x) = true := by simp; omega
      clear h
      go_enter Tryd.func16, Tryd.ntmps16
      go_wp2_with fail
      go_ret3
      rw [HT.out]
      exact ⟨rfl, rfl⟩
  · obtain ⟨at_, rfl⟩ : ∃ at_ : Nat, x = at_ := ⟨x.toNat, by omega⟩
    have e : getT s (at_ : Int) = getN s at_ := by unfold getT; rw [if_neg h, Int.toNat_natCast]
    rw [e]
    exact ref_Get_in s at_ w hs (by omega)

end Go.Proofs.YtcpgbgbhfkpehaaDoor
