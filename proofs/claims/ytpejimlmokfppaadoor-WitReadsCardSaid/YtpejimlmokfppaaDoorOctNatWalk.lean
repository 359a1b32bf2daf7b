/-
  octet.Nat and its reference: what they compute.
-/
import Derived.Test.YtpejimlmokfppaaDoorOctGet
import Derived.Test.YtpejimlmokfppaaDoorOctNat
import Derived.Test.YtpejimlmokfppaaDoorShelf
namespace Go.Proofs.YtpejimlmokfppaaDoor
open Go.RowKit

def tripI (r : Nat × Nat × Nat) : Value := .tuple #[.int .i64 r.1, .int .i64 r.2.1, .int .i64 r.2.2]

theorem octet_digit (b : Nat) (w : World) (hb : b < 256) :
    Calls Tryd.prog 44 #[.int .u8 b] w fun e w' => e = .returned (.bool (decide (48 ≤ b ∧ b ≤ 57))) ∧ w = w' := by
  by_cases h1 : 48 ≤ b
  · by_cases h2 : b ≤ 57
    · have e := Lib.hid (show decide (48 ≤ b ∧ b ≤ 57) = true by simp [h1, h2])
      go_enter Tryd.func44, Tryd.ntmps44
      go_wp2
      go_ret
      rw [e.out]
      exact ⟨by simp; omega, rfl⟩
    · have e := Lib.hid (show decide (48 ≤ b ∧ b ≤ 57) = false by simp [h2])
      go_enter Tryd.func44, Tryd.ntmps44
      go_wp2
      go_ret
      rw [e.out]
      exact ⟨by simp; omega, rfl⟩
  · have e := Lib.hid (show decide (48 ≤ b ∧ b ≤ 57) = false by simp [h1])
    go_enter Tryd.func44, Tryd.ntmps44
    go_wp2
    go_ret
    first | exact ⟨rfl, rfl⟩ | (rw [e.out]; exact ⟨rfl, rfl⟩)

theorem Kp.freeze {S : Nat → Prop} {a w : World} (h : Kp S a w) {p : Addr} (hp : p.block < a.heap.size → S p.block) (n : Nat) : Kp S a (w.freeze p n) := by
  unfold World.freeze
  split
  · exact h
  · refine ⟨h.os, h.tape, h.output, by simpa using h.size, fun k hk hS => ?_⟩
    show (w.heap.modify p.block _)[k]? = _
    rw [Array.getElem?_modify, if_neg (fun e => hS (by subst e; exact hp hk))]
    exact h.block k hk hS

theorem kp_bytesWorld (w : World) (e : TypeId) (t : ByteArray) : Kp (fun _ => False) w (Lib.bytesWorld w e t) := by
  unfold Lib.bytesWorld
  exact Kp.freeze (((Kp.refl _ w).drew).alloc _) (fun h => absurd h (by simp)) 1

set_option maxRecDepth 100000 in
set_option maxHeartbeats 1000000 in
theorem octet_Nat_in (s : ByteArray) (at_ : Nat) (w : World) (hs : s.size ≤ 9223372036854775000) (ha : at_ ≤ s.size) :
    Calls Tryd.prog 29 #[.string s, .int .i64 at_] w fun e w' => e = .returned (tripI (natN s at_)) ∧ Kp (fun _ => False) w w' := by
  have o1 : (decide ((at_ : Int) < 0) || decide ((s.size : Int) < (at_ : Int))) = false := by simp; omega
  go_enter Tryd.func29, Tryd.ntmps29
  go_wp2_with fail
  refine (octet_out _ _ _).mono ?_
  rintro e w' ⟨rfl, rfl⟩
  rw [o1]
  go_wp2_with fail
  go_loop [7] (fun v7 => ∃ j : Nat, v7 = .int .i64 j ∧ at_ ≤ j ∧ j ≤ s.size ∧ ∀ k, at_ ≤ k → k < j → isDig s k) (fun v7 => s.size - (intOf v7).toNat)
  case atStart => exact ⟨at_, rfl, by omega, by omega, fun k h1 h2 => by omega⟩
  case round =>
    obtain ⟨j, rfl, hj1, hj2, hd⟩ := hrel
    have HD := Lib.hid hd; clear hd
    by_cases hlt : j < s.size
    · have hb2 := bt_lt s j
      obtain ⟨B, hB⟩ : ∃ B, B = bt s j := ⟨_, rfl⟩
      have hb := bt_eq hlt
      rw [← hB] at hb2 hb
      have HB := Lib.hid hB; clear hB
      by_cases hdig : 48 ≤ B ∧ B ≤ 57
      · have hb3 : decide (48 ≤ B ∧ B ≤ 57) = true := by simp [hdig]
        go_wp2_with fail
        refine (octet_digit B _ hb2).mono ?_
        rintro e w' ⟨rfl, rfl⟩
        rw [hb3]
        go_wp2_with fail
        go_round
        case rel =>
          refine ⟨j + 1, by go_num, by omega, by omega, fun k h1 h2 => ?_⟩
          by_cases e : k = j
          · subst e; unfold isDig; rw [← HB.out]; exact hdig
          · exact HD.out k h1 (by omega)
        case measure => simp [intOf]; omega
      · have hb3 : decide (48 ≤ B ∧ B ≤ 57) = false := by simp only [hdig, decide_false]
        have HE := Lib.hid (endOf_is hj1 hj2 HD.out (.inr (by unfold isDig; rw [← HB.out]; exact hdig)))
        go_wp2_with fail
        refine (octet_digit B _ hb2).mono ?_
        rintro e w' ⟨rfl, rfl⟩
        rw [hb3]
        clear hb hb3 hdig HB hb2
        obtain ⟨n, rfl⟩ : ∃ n, j = at_ + n := ⟨j - at_, by omega⟩
        have HNN : Hid (natN s at_ = if at_ = s.size then (0, 0, 3) else if n = 0 ∨ bt s at_ = 48 ∧ 1 < n then (0, 0, 2) else if 9 < n then (0, 0, 5) else (numb s at_ n, at_ + n, 0)) := by
          show natN s at_ = _
          unfold natN
          rw [HE.out, show at_ + n - at_ = n from by omega]
          simp only [show (at_ + n = at_) = (n = 0) from propext (by omega), show (at_ + 1 < at_ + n) = (1 < n) from propext (by omega)]
        clear HE
        by_cases hend : at_ = s.size
        · have t1 : ((at_ : Int) == (s.size : Int)) = true := by rw [beq_iff_eq]; omega
          rw [if_pos hend] at HNN
          clear hend
          go_wp2_with fail
          go_ret3
          rw [HNN.out]
          exact ⟨rfl, Kp.refl _ _⟩
        · have t1 : ((at_ : Int) == (s.size : Int)) = false := by rw [beq_eq_false_iff_ne]; omega
          rw [if_neg hend] at HNN
          by_cases hn0 : n = 0
          · subst hn0
            have e1 : (s.extract at_ at_).toList = [] := cut_empty s at_
            have e2 : (s.extract at_ at_).toList.isEmpty = true := by rw [e1]; rfl
            rw [if_pos (.inl rfl)] at HNN
            rw [Nat.add_zero] at *
            clear hend
            go_wp2_with fail
            go_ret3
            rw [HNN.out]
            exact ⟨rfl, Kp.refl _ _⟩
          · have hcs := cut_size (s := s) (i := at_) (n := n) hj2
            have hsz : 0 < (s.extract at_ (at_ + n)).size := by rw [hcs]; omega
            have e1 := cut_some hj2 (show 0 < n by omega)
            have e2 : (s.extract at_ (at_ + n)).toList.isEmpty = false := by simpa using e1
            have hc0 := cut_first hj2 hsz
            have hC := bt_lt s at_
            generalize bt s at_ = C at hc0 HNN hC
            have HAT := Lib.hid (show Lib.atoi (s.extract at_ (at_ + n)).data.toList = some (numb s at_ n : Int) by rw [cut_list]; exact word_atoi (by omega) hj2 (fun k hk => HD.out (at_ + k) (by omega) (by omega)))
            by_cases h48 : C = 48 ∧ 1 < n
            · obtain ⟨rfl, hn1⟩ := h48
              rw [if_pos (.inr ⟨rfl, hn1⟩)] at HNN
              have d1 : decide ((1 : Int) < (n : Int)) = true := by simp; omega
              go_wp2_with fail
              go_ret3
              rw [HNN.out]
              exact ⟨rfl, Kp.refl _ _⟩
            · rw [if_neg (by omega)] at HNN
              by_cases hn9 : 9 < n
              · rw [if_pos hn9] at HNN
                have hC48 : ¬ C = 48 := by omega
                have hC48i : ¬ (C : Int) = 48 := by omega
                have d1 : decide ((9 : Int) < (n : Int)) = true := by simp; omega
                go_wp2_with fail
                go_ret3
                rw [HNN.out]
                exact ⟨rfl, Kp.refl _ _⟩
              · rw [if_neg hn9] at HNN
                have d1 : decide ((9 : Int) < (n : Int)) = false := by simp; omega
                have hnum := numb_lt (s := s) (i := at_) n (fun k hk => HD.out (at_ + k) (by omega) (by omega))
                by_cases hC48 : C = 48
                · subst hC48
                  obtain rfl : n = 1 := by omega
                  go_wp2_with fail
                  refine (Tryd.strconv_Atoi _ _ (by rw [hcs]; omega) HAT.out _).mono ?_
                  rintro e w1 ⟨rfl, t, rfl⟩
                  go_wp2_with fail
                  go_ret3
                  rw [HNN.out]
                  exact ⟨rfl, kp_bytesWorld _ _ _⟩
                · have hC48i : ¬ (C : Int) = 48 := by omega
                  go_wp2_with fail
                  refine (Tryd.strconv_Atoi _ _ (by rw [hcs]; omega) HAT.out _).mono ?_
                  rintro e w1 ⟨rfl, t, rfl⟩
                  go_wp2_with fail
                  go_ret3
                  rw [HNN.out]
                  exact ⟨rfl, kp_bytesWorld _ _ _⟩
    · have HE := Lib.hid (endOf_is hj1 hj2 HD.out (.inl (by omega)))
      obtain ⟨n, rfl⟩ : ∃ n, j = at_ + n := ⟨j - at_, by omega⟩
      have HNN : Hid (natN s at_ = if at_ = s.size then (0, 0, 3) else if n = 0 ∨ bt s at_ = 48 ∧ 1 < n then (0, 0, 2) else if 9 < n then (0, 0, 5) else (numb s at_ n, at_ + n, 0)) := by
        show natN s at_ = _
        unfold natN
        rw [HE.out, show at_ + n - at_ = n from by omega]
        simp only [show (at_ + n = at_) = (n = 0) from propext (by omega), show (at_ + 1 < at_ + n) = (1 < n) from propext (by omega)]
      clear HE
      by_cases hend : at_ = s.size
      · have t1 : ((at_ : Int) == (s.size : Int)) = true := by rw [beq_iff_eq]; omega
        rw [if_pos hend] at HNN
        clear hend
        go_wp2_with fail
        go_ret3
        rw [HNN.out]
        exact ⟨rfl, Kp.refl _ _⟩
      · have t1 : ((at_ : Int) == (s.size : Int)) = false := by rw [beq_eq_false_iff_ne]; omega
        rw [if_neg hend] at HNN
        by_cases hn0 : n = 0
        · subst hn0
          have e1 : (s.extract at_ at_).toList = [] := cut_empty s at_
          have e2 : (s.extract at_ at_).toList.isEmpty = true := by rw [e1]; rfl
          rw [if_pos (.inl rfl)] at HNN
          rw [Nat.add_zero] at *
          clear hend
          go_wp2_with fail
          go_ret3
          rw [HNN.out]
          exact ⟨rfl, Kp.refl _ _⟩
        · have hcs := cut_size (s := s) (i := at_) (n := n) hj2
          have hsz : 0 < (s.extract at_ (at_ + n)).size := by rw [hcs]; omega
          have e1 := cut_some hj2 (show 0 < n by omega)
          have e2 : (s.extract at_ (at_ + n)).toList.isEmpty = false := by simpa using e1
          have hc0 := cut_first hj2 hsz
          have hC := bt_lt s at_
          generalize bt s at_ = C at hc0 HNN hC
          have HAT := Lib.hid (show Lib.atoi (s.extract at_ (at_ + n)).data.toList = some (numb s at_ n : Int) by rw [cut_list]; exact word_atoi (by omega) hj2 (fun k hk => HD.out (at_ + k) (by omega) (by omega)))
          by_cases h48 : C = 48 ∧ 1 < n
          · obtain ⟨rfl, hn1⟩ := h48
            rw [if_pos (.inr ⟨rfl, hn1⟩)] at HNN
            have d1 : decide ((1 : Int) < (n : Int)) = true := by simp; omega
            go_wp2_with fail
            go_ret3
            rw [HNN.out]
            exact ⟨rfl, Kp.refl _ _⟩
          · rw [if_neg (by omega)] at HNN
            by_cases hn9 : 9 < n
            · rw [if_pos hn9] at HNN
              have hC48 : ¬ C = 48 := by omega
              have hC48i : ¬ (C : Int) = 48 := by omega
              have d1 : decide ((9 : Int) < (n : Int)) = true := by simp; omega
              go_wp2_with fail
              go_ret3
              rw [HNN.out]
              exact ⟨rfl, Kp.refl _ _⟩
            · rw [if_neg hn9] at HNN
              have d1 : decide ((9 : Int) < (n : Int)) = false := by simp; omega
              have hnum := numb_lt (s := s) (i := at_) n (fun k hk => HD.out (at_ + k) (by omega) (by omega))
              by_cases hC48 : C = 48
              · subst hC48
                obtain rfl : n = 1 := by omega
                go_wp2_with fail
                refine (Tryd.strconv_Atoi _ _ (by rw [hcs]; omega) HAT.out _).mono ?_
                rintro e w1 ⟨rfl, t, rfl⟩
                go_wp2_with fail
                go_ret3
                rw [HNN.out]
                exact ⟨rfl, kp_bytesWorld _ _ _⟩
              · have hC48i : ¬ (C : Int) = 48 := by omega
                go_wp2_with fail
                refine (Tryd.strconv_Atoi _ _ (by rw [hcs]; omega) HAT.out _).mono ?_
                rintro e w1 ⟨rfl, t, rfl⟩
                go_wp2_with fail
                go_ret3
                rw [HNN.out]
                exact ⟨rfl, kp_bytesWorld _ _ _⟩

theorem octet_Nat (s : ByteArray) (x : Int) (w : World) (hs : s.size ≤ 9223372036854775000) :
    Calls Tryd.prog 29 #[.string s, .int .i64 x] w fun e w' => e = .returned (tripI (natT s x)) ∧ Kp (fun _ => False) w w' := by
  by_cases h : x < 0 ∨ (s.size : Int) < x
  · have HT := Lib.hid (show natT s x = (0, 0, 1) by unfold natT; rw [if_pos h])
    have o1 : (decide (x < 0) || decide ((s.size : Int) < x)) = true := by simpa using h
    clear h
    go_enter Tryd.func29, Tryd.ntmps29
    go_wp2_with fail
    refine (octet_out _ _ _).mono ?_
    rintro e w' ⟨rfl, rfl⟩
    rw [o1]
    go_wp2_with fail
    go_ret3
    rw [HT.out]
    exact ⟨rfl, Kp.refl _ _⟩
  · obtain ⟨at_, rfl⟩ : ∃ at_ : Nat, x = at_ := ⟨x.toNat, by omega⟩
    have e : natT s (at_ : Int) = natN s at_ := by unfold natT; rw [if_neg h, Int.toNat_natCast]
    rw [e]
    exact octet_Nat_in s at_ w hs (by omega)

set_option maxRecDepth 100000 in
set_option maxHeartbeats 1000000 in
theorem ref_Nat_in (s : ByteArray) (at_ : Nat) (w : World) (hs : s.size ≤ 9223372036854775000) (ha : at_ < s.size) :
    Calls Tryd.prog 17 #[.string s, .int .i64 at_] w fun e w' => e = .returned (tripI (natN s at_)) ∧ w = w' := by
  have o1 : decide ((at_ : Int) < 0) = false := by simp
  have o2 : decide ((s.size : Int) < (at_ : Int)) = false := by simp; omega
  have o3 : decide (s.size < at_) = false := by simp; omega
  have t1 : ((at_ : Int) == (s.size : Int)) = false := by rw [beq_eq_false_iff_ne]; omega
  go_enter Tryd.func17, Tryd.ntmps17
  go_wp2_with fail
  go_loop [1, 7] (fun v1 v7 => ∃ n m : Nat, v1 = .int .i64 (at_ + n : Nat) ∧ v7 = .int .i64 m ∧ at_ + n ≤ s.size ∧ m = numb s at_ (min n 9) ∧ ∀ k, k < n → isDig s (at_ + k)) (fun v1 _ => s.size - (intOf v1).toNat)
  case atStart => exact ⟨0, 0, rfl, rfl, by omega, rfl, fun k hk => by omega⟩
  case round =>
    obtain ⟨n, m, rfl, rfl, hj2, hm, hd⟩ := hrel
    have hmb : m < 1000000000 := by
      have h1 := numb_lt (s := s) (i := at_) (min n 9) (fun k hk => hd k (by omega))
      have h2 := Nat.pow_le_pow_right (show 0 < 10 by decide) (show min n 9 ≤ 9 by omega)
      omega
    have HMV := Lib.hid hm; clear hm
    have HD := Lib.hid hd; clear hd
    have HD2 : ∀ k, at_ ≤ k → k < at_ + n → isDig s k := fun k h1 h2 => by have := HD.out (k - at_) (by omega); rw [show at_ + (k - at_) = k from by omega] at this; exact this
    have HD3 := Lib.hid HD2; clear HD2
    by_cases hlt : at_ + n < s.size
    · have hb2 := bt_lt s (at_ + n)
      obtain ⟨B, hB⟩ : ∃ B, B = bt s (at_ + n) := ⟨_, rfl⟩
      have hb := bt_eq hlt
      rw [← hB] at hb2 hb
      have HB := Lib.hid hB; clear hB
      have hli : (at_ : Int) + (n : Int) < (s.size : Int) := by omega
      have l1 : decide ((at_ : Int) + (n : Int) < (s.size : Int)) = true := by simp; omega
      by_cases hdig : 48 ≤ B ∧ B ≤ 57
      · obtain ⟨g1, g2⟩ := hdig
        have hdn : ∀ k, k < n + 1 → isDig s (at_ + k) := fun k hk => by
          by_cases e : k = n
          · subst e; unfold isDig; rw [← HB.out]; exact ⟨g1, g2⟩
          · exact HD.out k (by omega)
        have HDN := Lib.hid hdn; clear hdn
        have HNB := Lib.hid (show numb s at_ (n + 1) = 10 * numb s at_ n + (B - 48) by rw [HB.out]; rfl)
        by_cases h9 : n < 9
        · have HM2 := Lib.hid (show 10 * m + (B - 48) = numb s at_ (min (n + 1) 9) by rw [show min (n + 1) 9 = n + 1 from by omega, HNB.out, HMV.out, show min n 9 = n from by omega])
          clear HB HNB
          go_wp2_with fail
          go_round
          case rel => exact ⟨n + 1, 10 * m + (B - 48), by go_num, by go_num, by omega, HM2.out, HDN.out⟩
          case measure => simp [intOf]; omega
        · have HM2 := Lib.hid (show m = numb s at_ (min (n + 1) 9) by rw [show min (n + 1) 9 = 9 from by omega, HMV.out, show min n 9 = 9 from by omega])
          clear HB HNB
          go_wp2_with fail
          go_round
          case rel => exact ⟨n + 1, m, by go_num, rfl, by omega, HM2.out, HDN.out⟩
          case measure => simp [intOf]; omega
      · have HE := Lib.hid (endOf_is (by omega) hj2 HD3.out (.inr (by unfold isDig; rw [← HB.out]; exact hdig)))
        by_cases g1 : 48 ≤ B
        · have g2 : ¬ B ≤ 57 := fun h => hdig ⟨g1, h⟩
          clear HB hdig
          have HNN : Hid (natN s at_ = if n = 0 ∨ bt s at_ = 48 ∧ 1 < n then (0, 0, 2) else if 9 < n then (0, 0, 5) else (numb s at_ n, at_ + n, 0)) := by
            show natN s at_ = _
            unfold natN
            rw [if_neg (by omega), HE.out, show at_ + n - at_ = n from by omega]
            simp only [show (at_ + n = at_) = (n = 0) from propext (by omega), show (at_ + 1 < at_ + n) = (1 < n) from propext (by omega)]
          clear HE
          by_cases hn0 : n = 0
          · subst hn0
            simp only [Nat.add_zero] at hb hlt
            rw [if_pos (.inl rfl)] at HNN
            have t5 : ((at_ : Int) + ((0 : Nat) : Int) == (at_ : Int)) = true := by simp
            go_wp2_with fail
            go_ret3
            rw [HNN.out]
            exact ⟨rfl, rfl⟩
          · have t5 : ((at_ : Int) + (n : Int) == (at_ : Int)) = false := by rw [beq_eq_false_iff_ne]; omega
            have hC := bt_lt s at_
            have hc0 := bt_eq (s := s) (i := at_) (by omega)
            generalize bt s at_ = C at hc0 HNN hC
            by_cases h48 : C = 48 ∧ 1 < n
            · obtain ⟨rfl, hn1⟩ := h48
              rw [if_pos (.inr ⟨rfl, hn1⟩)] at HNN
              have d1 : decide ((at_ : Int) + 1 < (at_ : Int) + (n : Int)) = true := by simp; omega
              go_wp2_with fail
              go_ret3
              rw [HNN.out]
              exact ⟨rfl, rfl⟩
            · rw [if_neg (by omega)] at HNN
              by_cases hn9 : 9 < n
              · rw [if_pos hn9] at HNN
                have hC48 : ¬ C = 48 := by omega
                have hC48i : ¬ (C : Int) = 48 := by omega
                go_wp2_with fail
                go_ret3
                rw [HNN.out]
                exact ⟨rfl, rfl⟩
              · rw [if_neg hn9] at HNN
                have HM := Lib.hid (show m = numb s at_ n by rw [HMV.out]; congr 1; omega)
                by_cases hC48 : C = 48
                · subst hC48
                  obtain rfl : n = 1 := by omega
                  have d1 : decide ((at_ : Int) + 1 < (at_ : Int) + ((1 : Nat) : Int)) = false := by simp
                  go_wp2_with fail
                  go_ret3
                  rw [HNN.out, ← HM.out]
                  exact ⟨rfl, rfl⟩
                · have hC48i : ¬ (C : Int) = 48 := by omega
                  go_wp2_with fail
                  go_ret3
                  rw [HNN.out, ← HM.out]
                  exact ⟨rfl, rfl⟩
        · clear HB hdig
          have HNN : Hid (natN s at_ = if n = 0 ∨ bt s at_ = 48 ∧ 1 < n then (0, 0, 2) else if 9 < n then (0, 0, 5) else (numb s at_ n, at_ + n, 0)) := by
            show natN s at_ = _
            unfold natN
            rw [if_neg (by omega), HE.out, show at_ + n - at_ = n from by omega]
            simp only [show (at_ + n = at_) = (n = 0) from propext (by omega), show (at_ + 1 < at_ + n) = (1 < n) from propext (by omega)]
          clear HE
          by_cases hn0 : n = 0
          · subst hn0
            simp only [Nat.add_zero] at hb hlt
            rw [if_pos (.inl rfl)] at HNN
            have t5 : ((at_ : Int) + ((0 : Nat) : Int) == (at_ : Int)) = true := by simp
            go_wp2_with fail
            go_ret3
            rw [HNN.out]
            exact ⟨rfl, rfl⟩
          · have t5 : ((at_ : Int) + (n : Int) == (at_ : Int)) = false := by rw [beq_eq_false_iff_ne]; omega
            have hC := bt_lt s at_
            have hc0 := bt_eq (s := s) (i := at_) (by omega)
            generalize bt s at_ = C at hc0 HNN hC
            by_cases h48 : C = 48 ∧ 1 < n
            · obtain ⟨rfl, hn1⟩ := h48
              rw [if_pos (.inr ⟨rfl, hn1⟩)] at HNN
              have d1 : decide ((at_ : Int) + 1 < (at_ : Int) + (n : Int)) = true := by simp; omega
              go_wp2_with fail
              go_ret3
              rw [HNN.out]
              exact ⟨rfl, rfl⟩
            · rw [if_neg (by omega)] at HNN
              by_cases hn9 : 9 < n
              · rw [if_pos hn9] at HNN
                have hC48 : ¬ C = 48 := by omega
                have hC48i : ¬ (C : Int) = 48 := by omega
                go_wp2_with fail
                go_ret3
                rw [HNN.out]
                exact ⟨rfl, rfl⟩
              · rw [if_neg hn9] at HNN
                have HM := Lib.hid (show m = numb s at_ n by rw [HMV.out]; congr 1; omega)
                by_cases hC48 : C = 48
                · subst hC48
                  obtain rfl : n = 1 := by omega
                  have d1 : decide ((at_ : Int) + 1 < (at_ : Int) + ((1 : Nat) : Int)) = false := by simp
                  go_wp2_with fail
                  go_ret3
                  rw [HNN.out, ← HM.out]
                  exact ⟨rfl, rfl⟩
                · have hC48i : ¬ (C : Int) = 48 := by omega
                  go_wp2_with fail
                  go_ret3
                  rw [HNN.out, ← HM.out]
                  exact ⟨rfl, rfl⟩
    · have HE := Lib.hid (endOf_is (by omega) hj2 HD3.out (.inl (by omega)))
      have l1 : decide ((at_ : Int) + (n : Int) < (s.size : Int)) = false := by simp; omega
      have HNN : Hid (natN s at_ = if n = 0 ∨ bt s at_ = 48 ∧ 1 < n then (0, 0, 2) else if 9 < n then (0, 0, 5) else (numb s at_ n, at_ + n, 0)) := by
        show natN s at_ = _
        unfold natN
        rw [if_neg (by omega), HE.out, show at_ + n - at_ = n from by omega]
        simp only [show (at_ + n = at_) = (n = 0) from propext (by omega), show (at_ + 1 < at_ + n) = (1 < n) from propext (by omega)]
      clear HE
      by_cases hn0 : n = 0
      · exact absurd hn0 (by omega)
      · have t5 : ((at_ : Int) + (n : Int) == (at_ : Int)) = false := by rw [beq_eq_false_iff_ne]; omega
        have hC := bt_lt s at_
        have hc0 := bt_eq (s := s) (i := at_) (by omega)
        generalize bt s at_ = C at hc0 HNN hC
        by_cases h48 : C = 48 ∧ 1 < n
        · obtain ⟨rfl, hn1⟩ := h48
          rw [if_pos (.inr ⟨rfl, hn1⟩)] at HNN
          have d1 : decide ((at_ : Int) + 1 < (at_ : Int) + (n : Int)) = true := by simp; omega
          go_wp2_with fail
          go_ret3
          rw [HNN.out]
          exact ⟨rfl, rfl⟩
        · rw [if_neg (by omega)] at HNN
          by_cases hn9 : 9 < n
          · rw [if_pos hn9] at HNN
            have hC48 : ¬ C = 48 := by omega
            have hC48i : ¬ (C : Int) = 48 := by omega
            go_wp2_with fail
            go_ret3
            rw [HNN.out]
            exact ⟨rfl, rfl⟩
          · rw [if_neg hn9] at HNN
            have HM := Lib.hid (show m = numb s at_ n by rw [HMV.out]; congr 1; omega)
            by_cases hC48 : C = 48
            · subst hC48
              obtain rfl : n = 1 := by omega
              have d1 : decide ((at_ : Int) + 1 < (at_ : Int) + ((1 : Nat) : Int)) = false := by simp
              go_wp2_with fail
              go_ret3
              rw [HNN.out, ← HM.out]
              exact ⟨rfl, rfl⟩
            · have hC48i : ¬ (C : Int) = 48 := by omega
              go_wp2_with fail
              go_ret3
              rw [HNN.out, ← HM.out]
              exact ⟨rfl, rfl⟩

theorem ref_Nat (s : ByteArray) (x : Int) (w : World) (hs : s.size ≤ 9223372036854775000) :
    Calls Tryd.prog 17 #[.string s, .int .i64 x] w fun e w' => e = .returned (tripI (natT s x)) ∧ w = w' := by
  by_cases h : x < 0 ∨ (s.size : Int) < x
  · have HT := Lib.hid (show natT s x = (0, 0, 1) by unfold natT; rw [if_pos h])
    by_cases h1 : x < 0
    · have o1 : decide (x < 0) = true := by simpa using h1
      clear h
      go_enter Tryd.func17, Tryd.ntmps17
      go_wp2_with fail
      go_ret3
      rw [HT.out]
      exact ⟨rfl, rfl⟩
    · have o1 : decide (x < 0) = false := by simpa using h1
      have o2 : decide ((s.size : Int) < x) = true := by simp; omega
      clear h
      go_enter Tryd.func17, Tryd.ntmps17
      go_wp2_with fail
      go_ret3
      rw [HT.out]
      exact ⟨rfl, rfl⟩
  · obtain ⟨at_, rfl⟩ : ∃ at_ : Nat, x = at_ := ⟨x.toNat, by omega⟩
    have e : natT s (at_ : Int) = natN s at_ := by unfold natT; rw [if_neg h, Int.toNat_natCast]
    by_cases he : at_ = s.size
    · have HT := Lib.hid (show natT s (at_ : Int) = (0, 0, 3) by rw [e]; unfold natN; rw [if_pos he])
      have o1 : decide ((at_ : Int) < 0) = false := by simp
      have o3 : decide (s.size < at_) = false := by simp; omega
      have t1 : ((at_ : Int) == (s.size : Int)) = true := by rw [beq_iff_eq]; omega
      clear he h e
      go_enter Tryd.func17, Tryd.ntmps17
      go_wp2_with fail
      go_ret3
      rw [HT.out]
      exact ⟨rfl, rfl⟩
    · rw [e]
      exact ref_Nat_in s at_ w hs (by omega)

end Go.Proofs.YtpejimlmokfppaaDoor
