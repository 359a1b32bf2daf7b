/-
  octet.Nat and its reference: what they compute.
-/
import Derived.Test.YtpfofknjlhaanaaGreatDoorM1
import Derived.WalkSmall
import Derived.Deep.RegionWith
import Derived.Deep.RegionHeld3
import Derived.RegionTactic
import Derived.Tactics2
import Derived.Deep.CutBlock
import Derived.BigQuiet
import Derived.Deep.DeepCutAuto
import Derived.RangeFuncCalls
namespace Go.Proofs.YtpfofknjlhaanaaGreatDoor
open Go.RowKit

def tripI (r : Nat × Nat × Nat) : Value := .tuple #[.int .i64 r.1, .int .i64 r.2.1, .int .i64 r.2.2]

theorem octet_digit (b : Nat) (w : World) (hb : b < 256) :
    Calls Tryz.prog 91 #[.int .u8 b] w fun e w' => e = .returned (.bool (decide (48 ≤ b ∧ b ≤ 57))) ∧ w = w' := by
  by_cases h1 : 48 ≤ b
  · by_cases h2 : b ≤ 57
    · have e := Lib.hid (show decide (48 ≤ b ∧ b ≤ 57) = true by simp [h1, h2])
      go_enter Tryz.func91, Tryz.ntmps91
      go_wp2
      go_ret
      rw [e.out]
      exact ⟨by simp; omega, rfl⟩
    · have e := Lib.hid (show decide (48 ≤ b ∧ b ≤ 57) = false by simp [h2])
      go_enter Tryz.func91, Tryz.ntmps91
      go_wp2
      go_ret
      rw [e.out]
      exact ⟨by simp; omega, rfl⟩
  · have e := Lib.hid (show decide (48 ≤ b ∧ b ≤ 57) = false by simp [h1])
    go_enter Tryz.func91, Tryz.ntmps91
    go_wp2
    go_ret
    first | exact ⟨rfl, rfl⟩ | (rw [e.out]; exact ⟨rfl, rfl⟩)

theorem Kp.freeze {S : Nat → Prop} {a w : World} (h : Kp S a w) {p : Addr} (hp : p.block < a.heap.size → S p.block) (n : Nat) : Kp S a (w.freeze p n) := by
  unfold World.freeze
  split
  · exact h
  · refine ⟨h.os, h.tape, h.output, by simpa using h.size, fun k hk hS => ?_⟩
    show (w.heap.modify p.block _)[k]? = _
    rw [Array.getElem?_modify, if_neg (fun e => hS (by subst e; exact hp hk))]
    exact h.block k hk hS

theorem kp_bytesWorld (w : World) (e : TypeId) (t : ByteArray) : Kp (fun _ => False) w (Lib.bytesWorld w e t) := by
  unfold Lib.bytesWorld
  exact Kp.freeze (((Kp.refl _ w).drew).alloc _) (fun h => absurd h (by simp)) 1

set_option maxRecDepth 100000 in
set_option maxHeartbeats 1000000 in
theorem octet_Nat_in (s : ByteArray) (at_ : Nat) (w : World) (hs : s.size ≤ 9223372036854775000) (ha : at_ ≤ s.size) :
    Calls Tryz.prog 73 #[.string s, .int .i64 at_] w fun e w' => e = .returned (tripI (natN s at_)) ∧ Kp (fun _ => False) w w' := by
  have o1 : (decide ((at_ : Int) < 0) || decide ((s.size : Int) < (at_ : Int))) = false := by simp; omega
  go_enter Tryz.func73, Tryz.ntmps73
  go_wp2_with fail
  refine (octet_out _ _ _).mono ?_
  rintro e w' ⟨rfl, rfl⟩
  rw [o1]
  go_wp2_with fail
  go_loop [7] (fun v7 => ∃ j : Nat, v7 = .int .i64 j ∧ at_ ≤ j ∧ j ≤ s.size ∧ ∀ k, at_ ≤ k → k < j → isDig s k) (fun v7 => s.size - (intOf v7).toNat)
  case atStart => exact ⟨at_, rfl, by omega, by omega, fun k h1 h2 => by omega⟩
  case round =>
    obtain ⟨j, rfl, hj1, hj2, hd⟩ := hrel
    have HD := Lib.hid hd; clear hd
    by_cases hlt : j < s.size
    · have hb2 := bt_lt s j
      obtain ⟨B, hB⟩ : ∃ B, B = bt s j := ⟨_, rfl⟩
      have hb := bt_eq hlt
      rw [← hB] at hb2 hb
      have HB := Lib.hid hB; clear hB
      by_cases hdig : 48 ≤ B ∧ B ≤ 57
      · have hb3 : decide (48 ≤ B ∧ B ≤ 57) = true := by simp [hdig]
        go_wp2_with fail
        refine (octet_digit B _ hb2).mono ?_
        rintro e w' ⟨rfl, rfl⟩
        rw [hb3]
        go_wp2_with fail
        go_round
        case rel =>
          refine ⟨j + 1, by go_num, by omega, by omega, fun k h1 h2 => ?_⟩
          by_cases e : k = j
          · subst e; unfold isDig; rw [← HB.out]; exact hdig
          · exact HD.out k h1 (by omega)
        case measure => simp [intOf]; omega
      · have hb3 : decide (48 ≤ B ∧ B ≤ 57) = false := by simp only [hdig, decide_false]
        have HE := Lib.hid (endOf_is hj1 hj2 HD.out (.inr (by unfold isDig; rw [← HB.out]; exact hdig)))
        go_wp2_with fail
        refine (octet_digit B _ hb2).mono ?_
        rintro e w' ⟨rfl, rfl⟩
        rw [hb3]
        clear hb hb3 hdig HB hb2
        obtain ⟨n, rfl⟩ : ∃ n, j = at_ + n := ⟨j - at_, by omega⟩
        have HNN : Hid (natN s at_ = if at_ = s.size then (0, 0, 3) else if n = 0 ∨ bt s at_ = 48 ∧ 1 < n then (0, 0, 2) else if 9 < n then (0, 0, 5) else (numb s at_ n, at_ + n, 0)) := by
          show natN s at_ = _
          unfold natN
          rw [HE.out, show at_ + n - at_ = n from by omega]
          simp only [show (at_ + n = at_) = (n = 0) from propext (by omega), show (at_ + 1 < at_ + n) = (1 < n) from propext (by omega)]
        clear HE
        by_cases hend : at_ = s.size
        · have t1 : ((at_ : Int) == (s.size : Int)) = true := by rw [beq_iff_eq]; omega
          rw [if_pos hend] at HNN
          clear hend
          go_wp2_with fail
          go_ret3
          rw [HNN.out]
          exact ⟨rfl, Kp.refl _ _⟩
        · have t1 : ((at_ : Int) == (s.size : Int)) = false := by rw [beq_eq_false_iff_ne]; omega
          rw [if_neg hend] at HNN
          by_cases hn0 : n = 0
          · subst hn0
            have e1 : (s.extract at_ at_).toList = [] := cut_empty s at_
            have e2 : (s.extract at_ at_).toList.isEmpty = true := by rw [e1]; rfl
            rw [if_pos (.inl rfl)] at HNN
            rw [Nat.add_zero] at *
            clear hend
            go_wp2_with fail
            go_ret3
            rw [HNN.out]
            exact ⟨rfl, Kp.refl _ _⟩
          · have hcs := cut_size (s := s) (i := at_) (n := n) hj2
            have hsz : 0 < (s.extract at_ (at_ + n)).size := by rw [hcs]; omega
            have e1 := cut_some hj2 (show 0 < n by omega)
            have e2 : (s.extract at_ (at_ + n)).toList.isEmpty = false := by simpa using e1
            have hc0 := cut_first hj2 hsz
            have hC := bt_lt s at_
            generalize bt s at_ = C at hc0 HNN hC
            have HAT := Lib.hid (show Lib.atoi (s.extract at_ (at_ + n)).data.toList = some (numb s at_ n : Int) by rw [cut_list]; exact word_atoi (by omega) hj2 (fun k hk => HD.out (at_ + k) (by omega) (by omega)))
            by_cases h48 : C = 48 ∧ 1 < n
            · obtain ⟨rfl, hn1⟩ := h48
              rw [if_pos (.inr ⟨rfl, hn1⟩)] at HNN
              have d1 : decide ((1 : Int) < (n : Int)) = true := by simp; omega
              go_wp2_with fail
              go_ret3
              rw [HNN.out]
              exact ⟨rfl, Kp.refl _ _⟩
            · rw [if_neg (by omega)] at HNN
              by_cases hn9 : 9 < n
              · rw [if_pos hn9] at HNN
                have hC48 : ¬ C = 48 := by omega
                have hC48i : ¬ (C : Int) = 48 := by omega
                have d1 : decide ((9 : Int) < (n : Int)) = true := by simp; omega
                go_wp2_with fail
                go_ret3
                rw [HNN.out]
                exact ⟨rfl, Kp.refl _ _⟩
              · rw [if_neg hn9] at HNN
                have d1 : decide ((9 : Int) < (n : Int)) = false := by simp; omega
                have hnum := numb_lt (s := s) (i := at_) n (fun k hk => HD.out (at_ + k) (by omega) (by omega))
                by_cases hC48 : C = 48
                · subst hC48
                  obtain rfl : n = 1 := by omega
                  go_wp2_with fail
                  refine (Tryz.strconv_Atoi _ _ (by rw [hcs]; omega) HAT.out _).mono ?_
                  rintro e w1 ⟨rfl, t, rfl⟩
                  go_wp2_with fail
                  go_ret3
                  rw [HNN.out]
                  exact ⟨rfl, kp_bytesWorld _ _ _⟩
                · have hC48i : ¬ (C : Int) = 48 := by omega
                  go_wp2_with fail
                  refine (Tryz.strconv_Atoi _ _ (by rw [hcs]; omega) HAT.out _).mono ?_
                  rintro e w1 ⟨rfl, t, rfl⟩
                  go_wp2_with fail
                  go_ret3
                  rw [HNN.out]
                  exact ⟨rfl, kp_bytesWorld _ _ _⟩
    · have HE := Lib.hid (endOf_is hj1 hj2 HD.out (.inl (by omega)))
      obtain ⟨n, rfl⟩ : ∃ n, j = at_ + n := ⟨j - at_, by omega⟩
      have HNN : Hid (natN s at_ = if at_ = s.size then (0, 0, 3) else if n = 0 ∨ bt s at_ = 48 ∧ 1 < n then (0, 0, 2) else if 9 < n then (0, 0, 5) else (numb s at_ n, at_ + n, 0)) := by
        show natN s at_ = _
        unfold natN
        rw [HE.out, show at_ + n - at_ = n from by omega]
        simp only [show (at_ + n = at_) = (n = 0) from propext (by omega), show (at_ + 1 < at_ + n) = (1 < n) from propext (by omega)]
      clear HE
      by_cases hend : at_ = s.size
      · have t1 : ((at_ : Int) == (s.size : Int)) = true := by rw [beq_iff_eq]; omega
        rw [if_pos hend] at HNN
        clear hend
        go_wp2_with fail
        go_ret3
        rw [HNN.out]
        exact ⟨rfl, Kp.refl _ _⟩
      · have t1 : ((at_ : Int) == (s.size : Int)) = false := by rw [beq_eq_false_iff_ne]; omega
        rw [if_neg hend] at HNN
        by_cases hn0 : n = 0
        · subst hn0
          have e1 : (s.extract at_ at_).toList = [] := cut_empty s at_
          have e2 : (s.extract at_ at_).toList.isEmpty = true := by rw [e1]; rfl
          rw [if_pos (.inl rfl)] at HNN
          rw [Nat.add_zero] at *
          clear hend
          go_wp2_with fail
          go_ret3
          rw [HNN.out]
          exact ⟨rfl, Kp.refl _ _⟩
        · have hcs := cut_size (s := s) (i := at_) (n := n) hj2
          have hsz : 0 < (s.extract at_ (at_ + n)).size := by rw [hcs]; omega
          have e1 := cut_some hj2 (show 0 < n by omega)
          have e2 : (s.extract at_ (at_ + n)).toList.isEmpty = false := by simpa using e1
          have hc0 := cut_first hj2 hsz
          have hC := bt_lt s at_
          generalize bt s at_ = C at hc0 HNN hC
          have HAT := Lib.hid (show Lib.atoi (s.extract at_ (at_ + n)).data.toList = some (numb s at_ n : Int) by rw [cut_list]; exact word_atoi (by omega) hj2 (fun k hk => HD.out (at_ + k) (by omega) (by omega)))
          by_cases h48 : C = 48 ∧ 1 < n
          · obtain ⟨rfl, hn1⟩ := h48
            rw [if_pos (.inr ⟨rfl, hn1⟩)] at HNN
            have d1 : decide ((1 : Int) < (n : Int)) = true := by simp; omega
            go_wp2_with fail
            go_ret3
            rw [HNN.out]
            exact ⟨rfl, Kp.refl _ _⟩
          · rw [if_neg (by omega)] at HNN
            by_cases hn9 : 9 < n
            · rw [if_pos hn9] at HNN
              have hC48 : ¬ C = 48 := by omega
              have hC48i : ¬ (C : Int) = 48 := by omega
              have d1 : decide ((9 : Int) < (n : Int)) = true := by simp; omega
              go_wp2_with fail
              go_ret3
              rw [HNN.out]
              exact ⟨rfl, Kp.refl _ _⟩
            · rw [if_neg hn9] at HNN
              have d1 : decide ((9 : Int) < (n : Int)) = false := by simp; omega
              have hnum := numb_lt (s := s) (i := at_) n (fun k hk => HD.out (at_ + k) (by omega) (by omega))
              by_cases hC48 : C = 48
              · subst hC48
                obtain rfl : n = 1 := by omega
                go_wp2_with fail
                refine (Tryz.strconv_Atoi _ _ (by rw [hcs]; omega) HAT.out _).mono ?_
                rintro e w1 ⟨rfl, t, rfl⟩
                go_wp2_with fail
                go_ret3
                rw [HNN.out]
                exact ⟨rfl, kp_bytesWorld _ _ _⟩
              · have hC48i : ¬ (C : Int) = 48 := by omega
                go_wp2_with fail
                refine (Tryz.strconv_Atoi _ _ (by rw [hcs]; omega) HAT.out _).mono ?_
                rintro e w1 ⟨rfl, t, rfl⟩
                go_wp2_with fail
                go_ret3
                rw [HNN.out]
                exact ⟨rfl, kp_bytesWorld _ _ _⟩

theorem octet_Nat (s : ByteArray) (x : Int) (w : World) (hs : s.size ≤ 9223372036854775000) :
    Calls Tryz.prog 73 #[.string s, .int .i64 x] w fun e w' => e = .returned (tripI (natT s x)) ∧ Kp (fun _ => False) w w' := by
  by_cases h : x < 0 ∨ (s.size : Int) < x
  · have HT := Lib.hid (show natT s x = (0, 0, 1) by unfold natT; rw [if_pos h])
    have o1 : (decide (x < 0) || decide ((s.size : Int) < x)) = true := by simpa using h
    clear h
    go_enter Tryz.func73, Tryz.ntmps73
    go_wp2_with fail
    refine (octet_out _ _ _).mono ?_
    rintro e w' ⟨rfl, rfl⟩
    rw [o1]
    go_wp2_with fail
    go_ret3
    rw [HT.out]
    exact ⟨rfl, Kp.refl _ _⟩
  · obtain ⟨at_, rfl⟩ : ∃ at_ : Nat, x = at_ := ⟨x.toNat, by omega⟩
    have e : natT s (at_ : Int) = natN s at_ := by unfold natT; rw [if_neg h, Int.toNat_natCast]
    rw [e]
    exact octet_Nat_in s at_ w hs (by omega)

end Go.Proofs.YtpfofknjlhaanaaGreatDoor

/-
  octet.Num and its reference; octet.Dec: what they compute.
-/
namespace Go.Proofs.YtpfofknjlhaanaaGreatDoor
open Go.RowKit

/-- a number's digits of seven bits -/
def numL : Nat → Nat → List UInt8
  | 0, n => [UInt8.ofNat n]
  | f + 1, n => if n ≤ 127 then [UInt8.ofNat n] else UInt8.ofNat (n % 128 + 128) :: numL f (n / 128)

def bytesV (l : List UInt8) : List Value := l.map (fun b => Value.int .u8 (b.toNat : Int))

theorem bytesV_length (l : List UInt8) : (bytesV l).length = l.length := by simp [bytesV]

theorem numL_length (f : Nat) : ∀ n, (numL f n).length ≤ f + 1 := by
  induction f with
  | zero => intro n; simp [numL]
  | succ f ih => intro n; simp only [numL]; split; simp; (have := ih (n / 128); simp; omega)

theorem or_128 {m : Nat} (h : m < 256) : m ||| 128 = m % 128 + 128 := by
  have : ∀ m, m < 256 → m ||| 128 = m % 128 + 128 := by decide +kernel
  exact this m h

theorem byte_or (m : Nat) : bits .or .u8 ((m : Int) % 256) 128 = (((UInt8.ofNat (m % 128 + 128)).toNat : Nat) : Int) := by
  have h := Go.u8_or_nat (m % 256) 128 (by omega) (by decide)
  rw [or_128 (by omega)] at h
  rw [show ((m : Int) % 256) = ((m % 256 : Nat) : Int) from by omega]
  refine h.trans ?_
  simp only [UInt8.toNat_ofNat']
  omega

/-- 'string(b)' of an owned row of bytes -/
theorem own_string {w : World} {base g n cap : Nat} {l : List UInt8} (h : Own w base 5 (.slice (some ⟨g, 0, none⟩) n cap) (bytesV l)) :
    (convert 23 9 (.slice (some ⟨g, 0, none⟩) n cap)).run Tryz.prog w = .ok (.string ⟨l.toArray⟩) w := by
  have hn : n = l.length := by
    obtain ⟨a, c, e, _⟩ := h.form
    simp only [Value.slice.injEq] at e
    rw [e.2.1, bytesV_length]
  subst hn
  refine run_convert_bytes_back w 23 9 5 ⟨g, 0, none⟩ cap l Tryz.underlying23 Tryz.underlying5 Tryz.underlying9 (fun j hj => ?_)
  rw [add_plain', Nat.zero_add]
  exact h.cell (by simp [bytesV, hj])

theorem Tryz.info5 : (Tryz.prog.info? 5).map (fun i => (i.zero, i.size, i.bytes)) = some (some (.int .u8 0), 1, 1) := by kernel_rfl

set_option maxHeartbeats 1000000 in
theorem octet_Num (n : Nat) (w : World) (hn : n < 4294967296) :
    Calls Tryz.prog 41 #[.int .u32 n] w fun e w' => e = .returned (.string ⟨(numL 5 n).toArray⟩) ∧ Kp (fun _ => False) w w' := by
  go_enter Tryz.func41, Tryz.ntmps41
  go_wp2
  go_loopw [0, 3] (fun v0 v3 wr => ∃ (f m : Nat) (L : List UInt8), v0 = .int .u32 m ∧ m ≤ n ∧ f ≤ 5 ∧ m < 128 ^ f ∧ L.length = 5 - f ∧ L ++ numL f m = numL 5 n ∧ Own wr w.heap.size 5 v3 (bytesV L) ∧ Kp (fun _ => False) w wr) (fun v0 _ _ => (intOf v0).toNat)
  case atStart => exact ⟨5, n, [], rfl, Nat.le_refl _, by omega, by omega, rfl, rfl, Own.nil _ _ _, Kp.refl _ _⟩
  case round =>
    obtain ⟨f, m, L, rfl, hmn, hf, hm, hL, hN, hO, hK⟩ := hrel
    have HM := Lib.hid hm; clear hm
    have HL := Lib.hid hL; clear hL
    have HN := Lib.hid hN; clear hN
    have hsz := hK.size
    by_cases h : 127 < m
    · have hd : decide ((127 : Int) < (m : Int)) = true := by simp; omega
      have hf0 : ∃ f', f = f' + 1 := by
        cases f with
        | zero => have := HM.out; simp at this; omega
        | succ f' => exact ⟨f', rfl⟩
      obtain ⟨f', rfl⟩ := hf0
      have hb := byte_or m
      obtain ⟨E, hE⟩ : ∃ E, E = (UInt8.ofNat (m % 128 + 128)).toNat := ⟨_, rfl⟩
      rw [← hE] at hb
      have HE := Lib.hid (show bytesV L ++ [.int .u8 (E : Int)] = bytesV (L ++ [UInt8.ofNat (m % 128 + 128)]) by unfold bytesV; rw [List.map_append, hE]; rfl)
      have HN2 := Lib.hid (show L ++ [UInt8.ofNat (m % 128 + 128)] ++ numL f' (m / 128) = numL 5 n by
        rw [← HN.out, List.append_assoc]; congr 1; rw [numL, if_neg (by omega)]; rfl)
      have HM2 := Lib.hid (show m / 128 < 128 ^ f' by have := HM.out; rw [Nat.pow_succ] at this; omega)
      clear hE
      go_wp2_with (at_builtin; refine wpList_append1 rfl _ _ 23 5 rfl Tryz.underlying23 Tryz.info5 rfl (hO.alloc _) rfl ⟨wr.heap.size, 0, none⟩ (.int .u8 (E : Int)) rfl ?c1 rfl ?c2 ?c3 ?c4 ?_)
      case c1 => exact World.cell?_alloc_at _ _ _ _ rfl
      case c2 => rw [bytesV_length, HL.out]; omega
      case c3 => rw [bytesV_length, HL.out]; unfold maxLen; omega
      case c4 => simp; omega
      intro v' w1 hO1 hg1
      rw [HE.out] at hO1
      have hK1 : Kp (fun _ => False) w w1 := (hK.alloc _).grown hg1 (fun j hj hlt => by have := (hO.lt j hj).1; omega)
      clear hO hg1 hb HE
      go_wp2
      go_roundw
      case rel => exact ⟨f', m / 128, L ++ [UInt8.ofNat (m % 128 + 128)], by go_num, by omega, by omega, HM2.out, by rw [List.length_append, HL.out]; simp; omega, HN2.out, hO1, hK1⟩
      case measure => simp [intOf]; omega
    · have hd : decide ((127 : Int) < (m : Int)) = false := by simp; omega
      have HE := Lib.hid (show bytesV L ++ [.int .u8 (m : Int)] = bytesV (numL 5 n) by
        rw [← HN.out]; unfold bytesV; rw [List.map_append]; congr 1
        cases f with
        | zero => simp only [numL, List.map_cons, List.map_nil, UInt8.toNat_ofNat']; congr 2; omega
        | succ f => simp only [numL]; rw [if_pos (by omega)]; simp only [List.map_cons, List.map_nil, UInt8.toNat_ofNat']; congr 2; omega)
      have hnl : (numL 5 n).length = L.length + 1 := by
        have := congrArg List.length HE.out
        rw [List.length_append, bytesV_length, bytesV_length] at this
        simpa using this.symm
      have HNL := Lib.hid hnl; clear hnl
      go_wp2_with (at_builtin; refine wpList_append1 rfl _ _ 23 5 rfl Tryz.underlying23 Tryz.info5 rfl (hO.alloc _) rfl ⟨wr.heap.size, 0, none⟩ (.int .u8 (m : Int)) rfl ?c1 rfl ?c2 ?c3 ?c4 ?_)
      case c1 => exact World.cell?_alloc_at _ _ _ _ rfl
      case c2 => rw [bytesV_length, HL.out]; omega
      case c3 => rw [bytesV_length, HL.out]; unfold maxLen; omega
      case c4 => simp; omega
      intro v' w1 hO1 hg1
      rw [HE.out] at hO1
      have hK1 : Kp (fun _ => False) w w1 := (hK.alloc _).grown hg1 (fun j hj hlt => by have := (hO.lt j hj).1; omega)
      obtain ⟨g, cap, rfl, _, _⟩ := hO1.leads (by rw [bytesV_length, HNL.out]; omega)
      have hcv := own_string hO1
      clear hO hg1 HE
      go_wp2
      go_ret
      exact ⟨rfl, hK1⟩

end Go.Proofs.YtpfofknjlhaanaaGreatDoor

/-
  latchetlaw01: lives; the table that strconv.Itoa reads.
-/
namespace Go.Proofs.YtpfofknjlhaanaaGreatDoor
open Go.RowKit

/-- the table of powers of ten lies as its text lays it -/
def Tab (w : World) : Prop := Lib.TabIs Tryz.prog w "internal/strconv.uint64pow10" .u64 Lib.pow10Tab

theorem gPow : Tryz.prog.globalNamed "internal/strconv.uint64pow10" = some 1 := by kernel_rfl

theorem Tab.lt {w : World} (h : Tab w) : 1 < w.heap.size :=
  World.block_lt_of_cell? w _ (Lib.TabIs.cell h gPow 0 (by decide))

theorem Tab.kp {w w' : World} (h : Tab w) (k : Kp (fun _ => False) w w') : Tab w' :=
  var?_below (k.below (Nat.le_refl _) (fun _ _ h => h)) gPow h.lt h

theorem kp_grow (w : World) (k : Nat) (os : Array Obj) : Kp (fun _ => False) w (Sort.grow (w.drewN k) os) := by
  refine ⟨rfl, rfl, rfl, ?_, fun i hi _ => ?_⟩
  · show w.heap.size ≤ (w.heap ++ os).size
    simp
  · show (w.heap ++ os)[i]? = _
    rw [Array.getElem?_append_left hi]

theorem octet_Dec (n : Int) (w : World) (h0 : -9223372036854775808 ≤ n) (h1 : n ≤ 9223372036854775807) (ht : Tab w) :
    Calls Tryz.prog 39 #[.int .i64 n] w fun e w' => e = .returned (.string ⟨(Lib.itoa n).toArray⟩) ∧ Kp (fun _ => False) w w' := by
  have HT := Lib.hid ht; clear ht
  go_enter Tryz.func39, Tryz.ntmps39
  go_wp2_with fail
  refine (Tryz.strconv_Itoa n h0 h1 _ HT.out).mono ?_
  rintro e w' ⟨rfl, k, os, rfl⟩
  go_wp2_with fail
  go_ret
  exact ⟨rfl, kp_grow _ _ _⟩

end Go.Proofs.YtpfofknjlhaanaaGreatDoor

/-
  A number by digits of seven bits is got again.
-/
namespace Go.Proofs.YtpfofknjlhaanaaGreatDoor
open Go.RowKit

theorem bt_list (l : List UInt8) (i : Nat) (b : UInt8) (h : l[i]? = some b) : bt ⟨l.toArray⟩ i = b.toNat := by
  have hi : i < l.length := (List.getElem?_eq_some_iff.1 h).1
  have hs : i < (⟨l.toArray⟩ : ByteArray).size := by simpa [ByteArray.size] using hi
  rw [← bt_eq hs]
  have : (⟨l.toArray⟩ : ByteArray)[i]'hs = l[i] := rfl
  rw [this]
  rw [List.getElem?_eq_getElem hi] at h
  simp only [Option.some.injEq] at h
  rw [h]

theorem size_list (l : List UInt8) : (⟨l.toArray⟩ : ByteArray).size = l.length := by simp [ByteArray.size]

theorem ofNat_toNat {m : Nat} (h : m < 256) : (UInt8.ofNat m).toNat = m := by
  simp only [UInt8.toNat_ofNat']; omega

theorem get_num (more : List UInt8) (r : Nat) : ∀ (k m a : Nat) (pre : List UInt8), pre.length = k → k + (r + 1) = 5 → m * 128 ^ k < 4294967296 → (0 < k → 0 < m) →
    getR ⟨(pre ++ numL (r + 1) m ++ more).toArray⟩ 0 (r + 1) k a = (a + m * 128 ^ k, k + (numL (r + 1) m).length, 0) := by
  induction r with
  | zero =>
    intro k m a pre hp hk hm h0
    have hk4 : k = 4 := by omega
    subst hk4
    have hm15 : m ≤ 15 := by omega
    have hL : numL 1 m = [UInt8.ofNat m] := by simp only [numL]; rw [if_pos (by omega)]
    have hb : bt ⟨(pre ++ numL 1 m ++ more).toArray⟩ (0 + 4) = m := by
      rw [bt_list _ _ (UInt8.ofNat m) (by rw [hL, List.append_assoc, List.getElem?_append_right (by omega), hp]; rfl), ofNat_toNat (by omega)]
    rw [getR_step, hb, if_neg (by rw [size_list]; simp [hL]; omega), if_neg (by omega), if_neg (by have := h0 (by omega); omega), if_pos (by omega), hL]
    simp only [List.length_singleton]
    rw [Nat.mod_eq_of_lt (by omega)]
  | succ r ih =>
    intro k m a pre hp hk hm h0
    by_cases hs : m ≤ 127
    · have hL : numL (r + 1 + 1) m = [UInt8.ofNat m] := by simp only [numL]; rw [if_pos hs]
      have hb : bt ⟨(pre ++ numL (r + 1 + 1) m ++ more).toArray⟩ (0 + k) = m := by
        rw [bt_list _ _ (UInt8.ofNat m) (by rw [hL, List.append_assoc, List.getElem?_append_right (by omega), hp, Nat.zero_add, Nat.sub_self]; rfl), ofNat_toNat (by omega)]
      rw [getR_step, hb, if_neg (by rw [size_list]; simp [hL]; omega), if_neg (by omega), if_neg (fun h => by have := h0 h.1; omega), if_pos (by omega), hL]
      simp only [List.length_singleton]
      rw [Nat.mod_eq_of_lt (by omega)]
      simp
    · have hL : numL (r + 1 + 1) m = UInt8.ofNat (m % 128 + 128) :: numL (r + 1) (m / 128) := by rw [numL, if_neg hs]
      have hb : bt ⟨(pre ++ numL (r + 1 + 1) m ++ more).toArray⟩ (0 + k) = m % 128 + 128 := by
        rw [bt_list _ _ (UInt8.ofNat (m % 128 + 128)) (by rw [hL, List.append_assoc, List.getElem?_append_right (by omega), hp, Nat.zero_add, Nat.sub_self]; rfl), ofNat_toNat (by omega)]
      have e : pre ++ numL (r + 1 + 1) m ++ more = (pre ++ [UInt8.ofNat (m % 128 + 128)]) ++ numL (r + 1) (m / 128) ++ more := by rw [hL]; simp
      rw [getR_step, hb, if_neg (by rw [size_list]; simp [hL]; omega), if_neg (by omega), if_neg (by omega), if_neg (by omega), e]
      rw [ih (k + 1) (m / 128) _ _ (by simp [hp]) (by omega) ?_ (fun _ => by omega)]
      · rw [hL, List.length_cons]
        refine Prod.ext ?_ (Prod.ext ?_ rfl)
        · show a + (m % 128 + 128) % 128 * 128 ^ k + m / 128 * 128 ^ (k + 1) = a + m * 128 ^ k
          have e1 : (m % 128 + 128) % 128 = m % 128 := by omega
          have e2 : m * 128 ^ k = (m % 128 + 128 * (m / 128)) * 128 ^ k := by congr 1; omega
          rw [e1, e2, Nat.pow_succ, Nat.add_mul]
          have : m / 128 * (128 ^ k * 128) = 128 * (m / 128) * 128 ^ k := by
            rw [Nat.mul_comm (128 ^ k) 128, ← Nat.mul_assoc, Nat.mul_comm (m / 128) 128]
          omega
        · show k + 1 + _ = k + (_ + 1)
          omega
      · rw [Nat.pow_succ]
        have : m / 128 * (128 ^ k * 128) = (m / 128 * 128) * 128 ^ k := by
          rw [Nat.mul_comm (128 ^ k) 128, ← Nat.mul_assoc]
        rw [this]
        exact Nat.lt_of_le_of_lt (Nat.mul_le_mul_right _ (Nat.div_mul_le_self m 128)) hm

theorem get_puts (n : Nat) (more : List UInt8) (hn : n < 4294967296) : getT ⟨(numL 5 n ++ more).toArray⟩ 0 = (n, (numL 5 n).length, 0) := by
  have h := get_num more 4 0 n 0 [] rfl rfl (by omega) (by omega)
  unfold getT
  rw [if_neg (by omega)]
  unfold getN
  simpa using h

end Go.Proofs.YtpfofknjlhaanaaGreatDoor

/-
  latchetref01.Num and Dec: what they compute.
-/
namespace Go.Proofs.YtpfofknjlhaanaaGreatDoor
open Go.RowKit

/-- 'string([]byte{b})' -/
theorem one_string (E : Nat) (hE : E < 256) (u : World) :
    (convert 23 9 (.slice (some ⟨u.heap.size, 0, none⟩) 1 1)).run Tryz.prog (u.alloc (.cells #[.int .u8 (E : Int)] 5)) = .ok (.string ⟨#[UInt8.ofNat E]⟩) (u.alloc (.cells #[.int .u8 (E : Int)] 5)) := by
  have h := run_convert_bytes_back (P := Tryz.prog) (u.alloc (.cells #[.int .u8 (E : Int)] 5)) 23 9 5 ⟨u.heap.size, 0, none⟩ 1 [UInt8.ofNat E] Tryz.underlying23 Tryz.underlying5 Tryz.underlying9 (fun j hj => by
    have hj0 : j = 0 := by simpa using hj
    subst hj0
    rw [add_plain', Nat.zero_add]
    refine (World.cell?_alloc_at _ _ _ _ rfl).trans ?_
    simp [ofNat_toNat hE])
  exact h

theorem cat_bytes (a b : List UInt8) : (⟨a.toArray⟩ : ByteArray) ++ ⟨b.toArray⟩ = ⟨(a ++ b).toArray⟩ := by
  apply ByteArray.ext; simp

set_option maxHeartbeats 1000000 in
theorem ref_Num (n : Nat) (w : World) (hn : n < 4294967296) :
    Calls Tryz.prog 51 #[.int .u32 n] w fun e w' => e = .returned (.string ⟨(numL 5 n).toArray⟩) ∧ Kp (fun _ => False) w w' := by
  go_enter Tryz.func51, Tryz.ntmps51
  go_wp2
  go_loopw [0, 3] (fun v0 v3 wr => ∃ (f m : Nat) (L : List UInt8), v0 = .int .u32 m ∧ m ≤ n ∧ f ≤ 5 ∧ m < 128 ^ f ∧ L.length = 5 - f ∧ L ++ numL f m = numL 5 n ∧ v3 = .string ⟨L.toArray⟩ ∧ Kp (fun _ => False) w wr) (fun v0 _ _ => (intOf v0).toNat)
  case atStart => exact ⟨5, n, [], rfl, Nat.le_refl _, by omega, by omega, rfl, rfl, rfl, Kp.refl _ _⟩
  case round =>
    obtain ⟨f, m, L, rfl, hmn, hf, hm, hL, hN, rfl, hK⟩ := hrel
    have HM := Lib.hid hm; clear hm
    have HL := Lib.hid hL; clear hL
    have HN := Lib.hid hN; clear hN
    by_cases h : 128 ≤ m
    · have hd : decide ((128 : Int) ≤ (m : Int)) = true := by simp; omega
      have hf0 : ∃ f', f = f' + 1 := by
        cases f with
        | zero => have := HM.out; simp at this; omega
        | succ f' => exact ⟨f', rfl⟩
      obtain ⟨f', rfl⟩ := hf0
      obtain ⟨E, hE, hE2⟩ : ∃ E : Nat, (m : Int) % 128 + 128 = (E : Int) ∧ E = m % 128 + 128 := ⟨m % 128 + 128, by omega, rfl⟩
      have hE3 : E < 256 := by omega
      have hcv := one_string E hE3
      have HN2 := Lib.hid (show L ++ [UInt8.ofNat E] ++ numL f' (m / 128) = numL 5 n by
        rw [← HN.out, List.append_assoc, hE2]; congr 1; rw [numL, if_neg (by omega)]; rfl)
      have HM2 := Lib.hid (show m / 128 < 128 ^ f' by have := HM.out; rw [Nat.pow_succ] at this; omega)
      clear hE2
      go_wp2_with fail
      case isTrue hbig => exfalso; have := HL.out; omega
      refine ⟨⟨f', m / 128, L ++ [UInt8.ofNat E], by simp, by omega, by omega, HM2.out, ?_, HN2.out, ?_, hK.alloc _⟩, ?_⟩
      · have := HL.out; simp; omega
      · exact congrArg Value.string (cat_bytes _ _)
      · simp [intOf]; omega
    · have hd : decide ((128 : Int) ≤ (m : Int)) = false := by simp; omega
      have hcv := one_string m (by omega)
      have HN2 := Lib.hid (show L ++ [UInt8.ofNat m] = numL 5 n by
        have h0 : numL f m = [UInt8.ofNat m] := by
          cases f with
          | zero => rfl
          | succ f' => rw [numL, if_pos (by omega)]
        rw [← HN.out, h0])
      go_wp2_with fail
      case isTrue hbig => exfalso; have := HL.out; omega
      go_ret
      exact ⟨congrArg (fun x => Ending.returned (Value.string x)) ((cat_bytes _ _).trans (by rw [HN2.out])), hK.alloc _⟩

end Go.Proofs.YtpfofknjlhaanaaGreatDoor

/-
  latchetref01.Dec: what it computes: strconv.Itoa's numeral.
-/
namespace Go.Proofs.YtpfofknjlhaanaaGreatDoor
open Go.RowKit

theorem decLen : ∀ (k u : Nat), u < 10 ^ (k + 1) → (Lib.decDigits u).length ≤ k + 1
  | 0, u, h => by rw [Lib.decDigits, dif_pos (by simpa using h)]; simp
  | k + 1, u, h => by
    by_cases hu : u < 10
    · rw [Lib.decDigits, dif_pos hu]; simp
    · rw [Lib.decDigits, dif_neg hu]
      have := decLen k (u / 10) (by rw [Nat.pow_succ] at h; omega)
      simp; omega

theorem itoaLen {n : Int} (h1 : -9223372036854775808 ≤ n) (h2 : n ≤ 9223372036854775807) : (Lib.itoa n).length ≤ 21 := by
  have h := decLen 19 n.natAbs (by omega)
  unfold Lib.itoa
  split
  · simp; omega
  · have e : n.toNat = n.natAbs := by omega
    rw [e]; omega

theorem itoa_one {n : Int} (h0 : ¬ n < 0) (h : n < 10) : Lib.itoa n = [UInt8.ofNat (48 + n.toNat)] := by
  unfold Lib.itoa; rw [if_neg h0, Lib.decDigits, dif_pos (by omega)]

theorem itoa_more {n : Int} (h : ¬ n < 10) : Lib.itoa n = Lib.itoa (n / 10) ++ [UInt8.ofNat (48 + (n % 10).toNat)] := by
  unfold Lib.itoa
  rw [if_neg (by omega), if_neg (by omega)]
  conv => lhs; rw [Lib.decDigits, dif_neg (by omega)]
  rw [show (n / 10).toNat = n.toNat / 10 from by omega, show (n % 10).toNat = n.toNat % 10 from by omega]

theorem itoa_neg1 {n : Int} (h : n < 0) (h1 : -10 < n) : Lib.itoa n = 45 :: [UInt8.ofNat (48 - n).toNat] := by
  unfold Lib.itoa
  rw [if_pos h, Lib.decDigits, dif_pos (by omega), show (48 - n).toNat = 48 + n.natAbs from by omega]

theorem itoa_negm {n : Int} (h1 : n ≤ -10) : Lib.itoa n = Lib.itoa (n.tdiv 10) ++ [UInt8.ofNat (48 - n.tmod 10).toNat] := by
  obtain ⟨m, rfl⟩ : ∃ m : Nat, n = -(m : Int) := ⟨n.natAbs, by omega⟩
  rw [Int.neg_tdiv, Int.neg_tmod, Int.tdiv_eq_ediv_of_nonneg (by omega), Int.tmod_eq_emod_of_nonneg (by omega)]
  unfold Lib.itoa
  rw [if_pos (by omega), if_pos (by omega)]
  conv => lhs; rw [Lib.decDigits, dif_neg (by omega)]
  rw [show (-((m : Int) / 10)).natAbs = (-(m : Int)).natAbs / 10 from by omega, show (48 - -((m : Int) % 10)).toNat = 48 + (-(m : Int)).natAbs % 10 from by omega]
  rfl

/-- 'string([]byte{b})', wherever the cell lies -/
theorem one_string_at {E : Nat} (hE : E < 256) {k : Nat} {u : World} (h : u.cell? ⟨k, 0, none⟩ = some (.int .u8 (E : Int))) :
    (convert 23 9 (.slice (some ⟨k, 0, none⟩) 1 1)).run Tryz.prog u = .ok (.string ⟨#[UInt8.ofNat E]⟩) u := by
  have h := run_convert_bytes_back (P := Tryz.prog) u 23 9 5 ⟨k, 0, none⟩ 1 [UInt8.ofNat E] Tryz.underlying23 Tryz.underlying5 Tryz.underlying9 (fun j hj => by
    have hj0 : j = 0 := by simpa using hj
    subst hj0
    rw [add_plain', Nat.zero_add]
    refine h.trans ?_
    simp [ofNat_toNat hE])
  exact h

theorem one_string_v {V : Int} {E : Nat} (hE : E < 256) (hV : V = E) (u : World) :
    (convert 23 9 (.slice (some ⟨u.heap.size, 0, none⟩) 1 1)).run Tryz.prog (u.alloc (.cells #[.int .u8 V] 5)) = .ok (.string ⟨#[UInt8.ofNat E]⟩) (u.alloc (.cells #[.int .u8 V] 5)) := by
  subst hV; exact one_string E hE u

theorem one_kept {V : Int} {E : Nat} (hE : E < 256) (hV : V = E) {u w1 : World} (hK : Kp (fun _ => False) (u.alloc (.cells #[.int .u8 V] 5)).drew w1) :
    (convert 23 9 (.slice (some ⟨u.heap.size, 0, none⟩) 1 1)).run Tryz.prog w1 = .ok (.string ⟨#[UInt8.ofNat E]⟩) w1 := by
  subst hV
  refine one_string_at hE ?_
  have hb : w1.heap[u.heap.size]? = (u.alloc (.cells #[.int .u8 (E : Int)] 5)).heap[u.heap.size]? := Kp.block hK u.heap.size (by simp) (fun h => h)
  exact (World.cell?_of_block (a := ⟨u.heap.size, 0, none⟩) hb).trans (World.cell?_alloc_at _ _ _ _ rfl)

set_option maxHeartbeats 2000000 in
set_option maxRecDepth 100000 in
theorem ref_Dec_any (k : Nat) : ∀ (n : Int) (w : World), n.natAbs ≤ k → -9223372036854775808 ≤ n → n ≤ 9223372036854775807 →
    Calls Tryz.prog 52 #[.int .i64 n] w fun e w' => e = .returned (.string ⟨(Lib.itoa n).toArray⟩) ∧ Kp (fun _ => False) w w' := by
  induction k using Nat.strongRecOn with
  | _ k ih =>
    intro n w hk h1 h2
    by_cases hneg : n < 0
    · by_cases hs : -10 < n
      · have HI := Lib.hid (itoa_neg1 hneg hs)
        have hq : n.tdiv 10 = 0 := by
          obtain ⟨m, rfl⟩ : ∃ m : Nat, n = -(m : Int) := ⟨n.natAbs, by omega⟩
          rw [Int.neg_tdiv, Int.tdiv_eq_ediv_of_nonneg (by omega)]; omega
        obtain ⟨E, hE, hE2⟩ : ∃ E : Nat, 48 - n = (E : Int) ∧ E = (48 - n).toNat := ⟨(48 - n).toNat, by omega, rfl⟩
        have hE3 : E < 256 := by omega
        have HE2 := Lib.hid hE2; clear hE2
        have hcv := one_string E hE3
        clear ih
        go_enter Tryz.func52, Tryz.ntmps52
        go_wp2_with fail
        go_ret
        refine ⟨congrArg (fun x => Ending.returned (Value.string x)) ((cat_bytes [45] [UInt8.ofNat E]).trans ?_), (Kp.refl _ w).alloc _⟩
        rw [HI.out, HE2.out]; rfl
      · have HI := Lib.hid (itoa_negm (n := n) (by omega))
        obtain ⟨q, r, hq, hr, h10⟩ : ∃ q r : Int, n.tdiv 10 = q ∧ n.tmod 10 = r ∧ (q ≤ -1 ∧ n ≤ q ∧ n < q ∧ -9 ≤ r ∧ r ≤ 0) := by
          refine ⟨_, _, rfl, rfl, ?_⟩
          obtain ⟨m, rfl⟩ : ∃ m : Nat, n = -(m : Int) := ⟨n.natAbs, by omega⟩
          rw [Int.neg_tdiv, Int.neg_tmod, Int.tdiv_eq_ediv_of_nonneg (by omega), Int.tmod_eq_emod_of_nonneg (by omega)]; omega
        obtain ⟨E, hE2⟩ : ∃ E : Nat, E = (48 - r).toNat := ⟨_, rfl⟩
        have hE3 : E < 256 := by omega
        have hV : IntKind.wrap .u8 (IntKind.wrap .i64 (48 - r)) = (E : Int) := by
          rw [wrap_small _ (by omega) (by omega)]; unfold IntKind.wrap; simp [IntKind.bits, IntKind.signed]; omega
        have HE2 := Lib.hid hE2; clear hE2
        have HV := Lib.hid hV; clear hV
        have hcv := one_string_v hE3 HV.out
        have hcd := one_kept hE3 HV.out (Kp.refl _ (w.alloc (.cells #[.int .u8 (IntKind.wrap .u8 (IntKind.wrap .i64 (48 - r)))] 5)).drew)
        have hlen : ¬ 9223372036854775807 < (Lib.itoa q).length + 1 := by have := itoaLen (n := q) (by omega) (by omega); omega
        have hwq : IntKind.wrap .i64 q = q := hq ▸ wrap_i64_tdiv n 10 h1 h2 (by omega)
        have hrec : ∀ u : World, Calls Tryz.prog 52 #[.int .i64 q] u fun e w' => e = .returned (.string ⟨(Lib.itoa q).toArray⟩) ∧ Kp (fun _ => False) u w' :=
          fun u => ih q.natAbs (by omega) _ u (Nat.le_refl _) (by omega) (by omega)
        have hfin : ∀ w1, Kp (fun _ => False) w w1 → Ending.returned (Value.string ((⟨(Lib.itoa q).toArray⟩ : ByteArray) ++ ⟨#[UInt8.ofNat E]⟩)) = Ending.returned (.string ⟨(Lib.itoa n).toArray⟩) ∧ Kp (fun _ => False) w w1 :=
          fun w1 h => ⟨congrArg (fun x => Ending.returned (Value.string x)) ((cat_bytes _ [UInt8.ofNat E]).trans (by rw [HI.out, HE2.out, hq, hr])), h⟩
        have h0 : ¬ q = 0 := by omega
        clear ih
        go_enter Tryz.func52, Tryz.ntmps52
        go_wp2_with fail
        go_region_with (go_at_call 52; refine (hrec _).mono ?_; rintro e w1 ⟨rfl, hK1⟩; try have hcw : (convert 23 9 (.slice (some ⟨w.heap.size, 0, none⟩) 1 1)).run Tryz.prog w1 = _ := one_kept hE3 HV.out hK1)
        all_goals (go_wp2_with fail)
        all_goals go_ret
        · exact hfin _ ((Kp.trans (Kp.drew (Kp.refl _ w)) hK1 (fun _ _ h => h)).alloc _)
        · exact hfin _ (Kp.trans (Kp.drew (Kp.alloc (Kp.refl _ w) _)) hK1 (fun _ _ h => h))
        · exact hfin _ (Kp.trans (Kp.drew (Kp.alloc (Kp.refl _ w) _)) hK1 (fun _ _ h => h))
    by_cases hs : n < 10
    · have HI := Lib.hid (itoa_one hneg hs)
      obtain ⟨m, rfl⟩ : ∃ m : Nat, n = m := ⟨n.toNat, by omega⟩
      have hm : m < 10 := by omega
      obtain ⟨E, hE, hE2⟩ : ∃ E : Nat, 48 + (m : Int) = (E : Int) ∧ E = 48 + m := ⟨48 + m, by omega, rfl⟩
      have hE3 : E < 256 := by omega
      have HE2 := Lib.hid hE2; clear hE2
      have hcv := one_string E hE3
      go_enter Tryz.func52, Tryz.ntmps52
      go_wp2_with fail
      go_ret
      refine ⟨?_, (Kp.refl _ w).alloc _⟩
      rw [HI.out, HE2.out]; rfl
    · have HI := Lib.hid (itoa_more hs)
      obtain ⟨m, rfl⟩ : ∃ m : Nat, n = m := ⟨n.toNat, by omega⟩
      have hm : ¬ m < 10 := by omega
      obtain ⟨E, hE2⟩ : ∃ E : Nat, E = 48 + m % 10 := ⟨_, rfl⟩
      have hE3 : E < 256 := by omega
      have hV : IntKind.wrap .u8 (IntKind.wrap .i64 (48 + (m : Int).tmod 10)) = (E : Int) := by
        rw [Int.tmod_eq_emod_of_nonneg (by omega), wrap_small _ (by omega) (by omega)]; unfold IntKind.wrap; simp [IntKind.bits, IntKind.signed]; omega
      have HE2 := Lib.hid hE2; clear hE2
      have HV := Lib.hid hV; clear hV
      have hcv := one_string_v hE3 HV.out
      have hcd := one_kept hE3 HV.out (Kp.refl _ (w.alloc (.cells #[.int .u8 (IntKind.wrap .u8 (IntKind.wrap .i64 (48 + (m : Int).tmod 10)))] 5)).drew)
      have hlen : ¬ 9223372036854775807 < (Lib.itoa ((m : Int) / 10)).length + 1 := by have := itoaLen (n := (m : Int) / 10) (by omega) (by omega); omega
      have hwq : IntKind.wrap .i64 ((m : Int) / 10) = (m : Int) / 10 := wrap_small _ (by omega) (by omega)
      have hrec : ∀ u : World, Calls Tryz.prog 52 #[.int .i64 (IntKind.wrap .i64 ((m : Int) / 10))] u fun e w' => e = .returned (.string ⟨(Lib.itoa ((m : Int) / 10)).toArray⟩) ∧ Kp (fun _ => False) u w' :=
        fun u => by rw [hwq]; exact ih ((m : Int) / 10).natAbs (by omega) _ u (Nat.le_refl _) (by omega) (by omega)
      have hfin : ∀ w1, Kp (fun _ => False) w w1 → Ending.returned (Value.string ((⟨(Lib.itoa ((m : Int) / 10)).toArray⟩ : ByteArray) ++ ⟨#[UInt8.ofNat E]⟩)) = Ending.returned (.string ⟨(Lib.itoa (m : Int)).toArray⟩) ∧ Kp (fun _ => False) w w1 :=
        fun w1 h => ⟨congrArg (fun x => Ending.returned (Value.string x)) ((cat_bytes _ [UInt8.ofNat E]).trans (by rw [HI.out, HE2.out, show ((m : Int) % 10).toNat = m % 10 from by omega])), h⟩
      clear ih hwq
      go_enter Tryz.func52, Tryz.ntmps52
      go_wp2_with fail
      go_region_with (go_at_call 52; refine (hrec _).mono ?_; rintro e w1 ⟨rfl, hK1⟩; try have hcw : (convert 23 9 (.slice (some ⟨w.heap.size, 0, none⟩) 1 1)).run Tryz.prog w1 = _ := one_kept hE3 HV.out hK1)
      all_goals (go_wp2_with fail)
      all_goals go_ret
      · exact hfin _ ((Kp.trans (Kp.drew (Kp.refl _ w)) hK1 (fun _ _ h => h)).alloc _)
      · exact hfin _ (Kp.trans (Kp.drew (Kp.alloc (Kp.refl _ w) _)) hK1 (fun _ _ h => h))
      · exact hfin _ (Kp.trans (Kp.drew (Kp.alloc (Kp.refl _ w) _)) hK1 (fun _ _ h => h))

theorem ref_Dec (n : Int) (w : World) (h1 : -9223372036854775808 ≤ n) (h2 : n ≤ 9223372036854775807) :
    Calls Tryz.prog 52 #[.int .i64 n] w fun e w' => e = .returned (.string ⟨(Lib.itoa n).toArray⟩) ∧ Kp (fun _ => False) w w' :=
  ref_Dec_any n.natAbs n w (Nat.le_refl _) h1 h2

end Go.Proofs.YtpfofknjlhaanaaGreatDoor

/-
  A line of numbers, as the program and as the reference writes it.
-/
namespace Go.Proofs.YtpfofknjlhaanaaGreatDoor
open Go.RowKit

def astrs (L : List ByteArray) : List Value := L.map Value.string
theorem astrInfo : (Tryz.prog.info? 9).map (fun i => (i.zero, i.size, i.bytes)) = some (some (.string .empty), 1, 16) := by kernel_rfl
theorem amade_strs (n : Nat) : madeCells #[.string .empty] n = (astrs (List.replicate n .empty)).toArray := by
  apply Array.ext
  · simp [madeCells, astrs]
  · intro i h1 h2
    simp [madeCells, astrs, Nat.mod_one]
theorem astrs_set (L : List ByteArray) (k : Nat) (x : ByteArray) : (astrs L).toArray.setIfInBounds k (.string x) = (astrs (L.set k x)).toArray := by simp [astrs, List.map_set]
theorem astrs_at {L : List ByteArray} {k : Nat} {x : ByteArray} (h : L[k]? = some x) : (astrs L).toArray[k]? = some (.string x) := by simp [astrs, h]

/-- the numbers with blanks between -/
def jrow (l : List Int) : List UInt8 := Lib.join (l.map Lib.itoa) [32]

theorem jrow_nil : jrow [] = [] := rfl
theorem jrow_snoc (l : List Int) (x : Int) : jrow (l ++ [x]) = (if l.length = 0 then [] else jrow l ++ [32]) ++ Lib.itoa x := by
  cases l with
  | nil => simp [jrow, Lib.join_one]
  | cons a r =>
    rw [if_neg (by simp)]
    unfold jrow
    rw [List.cons_append, List.map_cons, List.map_cons, Lib.join_cons, Lib.join_cons, List.map_append]
    simp [Lib.joinTail]

/-- a number of Go's int -/
def okI (x : Int) : Prop := -9223372036854775808 ≤ x ∧ x ≤ 9223372036854775807

theorem jrow_take_len {l : List Int} (h : ∀ x ∈ l, okI x) : ∀ k, k ≤ l.length → (jrow (l.take k)).length ≤ 22 * k
  | 0, _ => by simp [jrow_nil]
  | k + 1, hk => by
    have ih := jrow_take_len h k (by omega)
    have hx := h _ (List.getElem_mem (show k < l.length by omega))
    have hi := itoaLen hx.1 hx.2
    rw [List.take_succ_eq_append_getElem (by omega), jrow_snoc]
    split <;> simp <;> omega

theorem jrow_step {l : List Int} {k : Nat} (hk : k < l.length) : jrow (l.take (k + 1)) = (if k = 0 then [] else jrow (l.take k) ++ [32]) ++ Lib.itoa (gi l k) := by
  rw [List.take_succ_eq_append_getElem hk, jrow_snoc, List.length_take, show min k l.length = k by omega, show l[k] = gi l k by simp [gi, List.getElem?_eq_getElem hk]]

theorem gi_ok {l : List Int} {k : Nat} (h : ∀ x ∈ l, okI x) (hk : k < l.length) : okI (gi l k) := by
  have : gi l k = l[k] := by simp [gi, List.getElem?_eq_getElem hk]
  rw [this]; exact h _ (List.getElem_mem hk)

def itx (x : Int) : ByteArray := ⟨(Lib.itoa x).toArray⟩

set_option maxRecDepth 100000 in
set_option maxHeartbeats 2000000 in
theorem ascii_row (a : Option Addr) (cap : Nat) (l : List Int) (n : Nat) (w : World) (hr : IntsAt w a l) (hln : l.length = n) (hn : n ≤ 100000) (hok : ∀ x ∈ l, okI x) (ht : Tab w) :
    Calls Tryz.prog 36 #[.slice a n cap] w fun e w' => e = .returned (.string ⟨(jrow l ++ [10]).toArray⟩) ∧ Kp (fun _ => False) w w' := by
  obtain ⟨i0, hi, hz0, hz1, hz2⟩ := info_parts astrInfo
  have hmk : ∀ u : World, (Instr.makeSlice 112 (.int .i64 (n : Int)) (.int .i64 (n : Int))).run Tryz.prog u =
      .ok (.slice (some ⟨u.heap.size, 0, none⟩) n n) (u.alloc (.cells (madeCells #[.string .empty] n) 9)) := fun u => by
    have h := run_make (P := Tryz.prog) u 112 9 i0 (.string .empty) Tryz.underlying112 hi hz0 .i64 .i64 (n : Int) (n : Int) (by omega) (Int.le_refl _) (by rw [hz2]; omega) (by omega)
    simpa [hz1, Value.cells] using h
  clear hi hz0 hz1 hz2 i0
  have hmade := Lib.hid (amade_strs n)
  have HT := Lib.hid ht; clear ht
  have HR := Lib.hid hr; clear hr
  have HLN := Lib.hid hln; clear hln
  have HOk := Lib.hid hok; clear hok
  go_enter Tryz.func36, Tryz.ntmps36
  go_wp2_with fail
  go_loopw [11] (fun i wr => ∃ (k : Nat) (L : List ByteArray), k ≤ n ∧ i = .int .i64 k ∧ L.length = n ∧ (∀ j, j < k → L[j]? = some (itx (gi l j))) ∧ Blk wr w.heap.size (astrs L).toArray 9 ∧ Kp (fun _ => False) w wr) (fun i _ => n - (intOf i).toNat)
  case atStart => exact ⟨0, List.replicate n .empty, Nat.zero_le _, rfl, by simp, fun j hj => by omega, by rw [← hmade.out]; exact Blk.new _ _ _, (Kp.refl _ _).alloc _⟩
  case round =>
    obtain ⟨k, L, hk, rfl, hL, hJ, hB, hK⟩ := hrel
    have HL := Lib.hid hL; clear hL
    have HJ := Lib.hid hJ; clear hJ
    have HB := Lib.hid hB; clear hB
    by_cases hlt : k < n
    · have hd : decide ((k : Int) < (n : Int)) = true := by simp; omega
      obtain ⟨b, off, rfl, hc⟩ := (show IntsAt wr a l from HR.out.kp hK (fun _ _ h => h)).get (j := k) (by rw [HLN.out]; exact hlt)
      have hxo := gi_ok HOk.out (k := k) (by rw [HLN.out]; exact hlt)
      obtain ⟨x, hx⟩ : ∃ x, gi l k = x := ⟨_, rfl⟩
      rw [hx] at hc hxo
      have HX := Lib.hid hx; clear hx
      have HTx := Lib.hid (octet_Dec x wr hxo.1 hxo.2 (HT.out.kp hK))
      obtain ⟨x0, hx0⟩ : ∃ x0, L[k]? = some x0 := ⟨_, List.getElem?_eq_getElem (by rw [HL.out]; exact hlt)⟩
      have HX0 := Lib.hid hx0; clear hx0
      clear hxo
      go_wp2_with fail
      refine HTx.out.mono ?_
      rintro e w2 ⟨rfl, hK2⟩
      have hB2 := HB.out.kp hK2 (fun h => h)
      have hK3 := hK.trans hK2 (fun _ _ h => h)
      have c0 := hB2.cell (i := k) (astrs_at HX0.out)
      have f0 := hB2.free k
      have HRel := Lib.hid (show ∃ (k' : Nat) (L : List ByteArray), k' ≤ n ∧ Value.int .i64 ((k : Int) + 1) = .int .i64 k' ∧ L.length = n ∧ (∀ j, j < k' → L[j]? = some (itx (gi l j))) ∧ Blk (w2.setCell ⟨w.heap.size, k, none⟩ (.string ⟨(Lib.itoa x).toArray⟩)) w.heap.size (astrs L).toArray 9 ∧ Kp (fun _ => False) w (w2.setCell ⟨w.heap.size, k, none⟩ (.string ⟨(Lib.itoa x).toArray⟩)) from
        ⟨k + 1, L.set k (itx x), by omega, by go_num, by rw [List.length_set, HL.out], fun j hj => by
            by_cases e : j = k
            · subst e; rw [List.getElem?_set_self (by rw [HL.out]; exact hlt), HX.out]
            · rw [List.getElem?_set_ne (fun h => e h.symm)]; exact HJ.out j (by omega),
          by rw [← astrs_set]; exact hB2.set_same k _, hK3.setCell (p := ⟨w.heap.size, k, none⟩) (by simp) _⟩)
      clear hB2 hK2 hK3
      go_wp2_with fail
      go_roundw
      case rel => exact HRel.out
      case measure => simp [intOf]; omega
    · have hd : decide ((k : Int) < (n : Int)) = false := by simp; omega
      have e : L = l.map itx := by
        apply List.ext_getElem?
        intro j
        by_cases hj : j < n
        · rw [HJ.out j (by omega), List.getElem?_map]
          have hj2 : j < l.length := by rw [HLN.out]; exact hj
          rw [List.getElem?_eq_getElem hj2]
          simp [gi, List.getElem?_eq_getElem hj2]
        · rw [List.getElem?_eq_none (by rw [HL.out]; omega), List.getElem?_eq_none (by rw [List.length_map, HLN.out]; omega)]
      subst e
      have ej : (l.map itx).map (·.data.toList) = l.map Lib.itoa := by rw [List.map_map]; apply List.map_congr_left; intro z _; simp [itx]
      have hlt2 : w.heap.size < wr.heap.size := HB.out.lt
      have hjl : (jrow l).length ≤ 22 * n := by
        have := jrow_take_len HOk.out l.length (Nat.le_refl _)
        rw [List.take_length, HLN.out] at this
        exact this
      have HJn := Lib.hid (Tryz.strings_Join w.heap.size 0 n (l.map itx) ⟨#[32]⟩ wr (fun j x hx => by rw [Nat.zero_add]; exact HB.out.cell (astrs_at hx)) hlt2 (by rw [List.length_map, HLN.out]; omega) (by rw [List.length_map, HLN.out]; exact Nat.le_refl _)
        (by rw [ej, show (⟨#[32]⟩ : ByteArray).data.toList = [32] from rfl]; show (jrow l).length ≤ _; omega))
      rw [ej, show (⟨#[32]⟩ : ByteArray).data.toList = [32] from rfl, show Lib.join (l.map Lib.itoa) [32] = jrow l from rfl, List.length_map, HLN.out] at HJn
      have hcat : ¬ 9223372036854775807 < (jrow l).length + 1 := by omega
      obtain ⟨J, hJ⟩ : ∃ J, jrow l = J := ⟨_, rfl⟩
      have HCat : Hid ((⟨J.toArray⟩ : ByteArray) ++ ⟨([10] : List UInt8).toArray⟩ = ⟨(jrow l ++ [10]).toArray⟩) := Lib.hid (by rw [hJ]; exact cat_bytes J [10])
      rw [hJ] at HJn hcat
      clear hJ
      clear hjl
      go_wp2_with fail
      refine HJn.out.mono ?_
      rintro e w2 ⟨rfl, hb⟩
      have hend := hK.trans (Kp.of_below hb (fun _ => False)) (fun _ _ h => h)
      go_wp2_with fail
      go_ret
      exact ⟨congrArg (fun x => Ending.returned (Value.string x)) HCat.out, hend⟩

set_option maxRecDepth 100000 in
set_option maxHeartbeats 2000000 in
theorem ref_row (a : Option Addr) (cap : Nat) (l : List Int) (n : Nat) (w : World) (hr : IntsAt w a l) (hln : l.length = n) (hn : n ≤ 100000) (hok : ∀ x ∈ l, okI x) :
    Calls Tryz.prog 49 #[.slice a n cap] w fun e w' => e = .returned (.string ⟨(jrow l ++ [10]).toArray⟩) ∧ Kp (fun _ => False) w w' := by
  have HR := Lib.hid hr; clear hr
  have HLN := Lib.hid hln; clear hln
  have HOk := Lib.hid hok; clear hok
  go_enter Tryz.func49, Tryz.ntmps49
  go_wp2_with fail
  go_loopw [3, 4] (fun s i wr => ∃ k : Nat, k ≤ n ∧ i = .int .i64 k ∧ s = .string ⟨(jrow (l.take k)).toArray⟩ ∧ Kp (fun _ => False) w wr) (fun _ i _ => n - (intOf i).toNat)
  case atStart => exact ⟨0, Nat.zero_le _, rfl, rfl, Kp.refl _ _⟩
  case round =>
    obtain ⟨k, hk, rfl, rfl, hK⟩ := hrel
    have hJl := jrow_take_len HOk.out k (by rw [HLN.out]; exact hk)
    by_cases hlt : k < n
    · have hd : decide ((k : Int) < (n : Int)) = true := by simp; omega
      obtain ⟨b, off, rfl, hc⟩ := (show IntsAt wr a l from HR.out.kp hK (fun _ _ h => h)).get (j := k) (by rw [HLN.out]; exact hlt)
      have HSt := Lib.hid (jrow_step (l := l) (k := k) (by rw [HLN.out]; exact hlt))
      have hxo := gi_ok HOk.out (k := k) (by rw [HLN.out]; exact hlt)
      obtain ⟨x, hx⟩ : ∃ x, gi l k = x := ⟨_, rfl⟩
      rw [hx] at hc hxo HSt
      clear hx
      have HTx := Lib.hid (fun u => ref_Dec x u hxo.1 hxo.2)
      have hil := itoaLen hxo.1 hxo.2
      clear hxo
      generalize hJe : jrow (l.take k) = J at HSt hJl
      generalize Lib.itoa x = D at HTx hil HSt
      have HK := Lib.hid hK
      have i1 : (0 : Int) ≤ (k : Int) := by omega
      have i2 : (k : Int) < (n : Int) := by omega
      by_cases h0 : k = 0
      · have g0 : decide (0 < k) = false := by simp; omega
        rw [if_pos h0, List.nil_append] at HSt
        have HJ0 : Hid (J = []) := Lib.hid (by rw [← hJe, h0]; rfl)
        have HCat := Lib.hid (show (⟨J.toArray⟩ : ByteArray) ++ ⟨D.toArray⟩ = ⟨D.toArray⟩ by rw [cat_bytes, HJ0.out]; rfl)
        have hc1 : ¬ 9223372036854775807 < J.length + D.length := by omega
        clear hJe h0
        go_wp2_with fail
        refine (HTx.out _).mono ?_
        rintro e w2 ⟨rfl, hK2⟩
        have HRel := Lib.hid (show ∃ k' : Nat, k' ≤ n ∧ Value.int .i64 ((k : Int) + 1) = .int .i64 k' ∧ Value.string ((⟨J.toArray⟩ : ByteArray) ++ ⟨D.toArray⟩) = .string ⟨(jrow (l.take k')).toArray⟩ ∧ Kp (fun _ => False) w w2 from
          ⟨k + 1, by omega, by go_num, by rw [HCat.out, HSt.out], HK.out.trans hK2 (fun _ _ h => h)⟩)
        clear hK2
        go_wp2_with fail
        go_roundw
        case rel => exact HRel.out
        case measure => simp [intOf]; omega
      · have g0 : decide (0 < k) = true := by simp; omega
        rw [if_neg h0] at HSt
        have HCat := Lib.hid (show (⟨J.toArray⟩ : ByteArray) ++ ⟨#[32]⟩ ++ ⟨D.toArray⟩ = ⟨(J ++ [32] ++ D).toArray⟩ by rw [show (⟨#[32]⟩ : ByteArray) = ⟨([32] : List UInt8).toArray⟩ from rfl, cat_bytes, cat_bytes])
        have hc1 : ¬ 9223372036854775807 < J.length + 1 := by omega
        have hc2 : ¬ 9223372036854775807 < J.length + 1 + D.length := by omega
        clear hJe h0
        go_wp2_with fail
        refine (HTx.out _).mono ?_
        rintro e w2 ⟨rfl, hK2⟩
        have HRel := Lib.hid (show ∃ k' : Nat, k' ≤ n ∧ Value.int .i64 ((k : Int) + 1) = .int .i64 k' ∧ Value.string ((⟨J.toArray⟩ : ByteArray) ++ ⟨#[32]⟩ ++ ⟨D.toArray⟩) = .string ⟨(jrow (l.take k')).toArray⟩ ∧ Kp (fun _ => False) w w2 from
          ⟨k + 1, by omega, by go_num, by rw [HCat.out, HSt.out], HK.out.trans hK2 (fun _ _ h => h)⟩)
        clear hK2
        go_wp2_with fail
        go_roundw
        case rel => exact HRel.out
        case measure => simp [intOf]; omega
    · have hd : decide ((k : Int) < (n : Int)) = false := by simp; omega
      have HE := Lib.hid (show jrow (l.take k) = jrow l by rw [List.take_of_length_le (by rw [HLN.out]; omega)])
      rw [HE.out] at hJl ⊢
      have hcat : ¬ 9223372036854775807 < (jrow l).length + 1 := by omega
      obtain ⟨J, hJ⟩ : ∃ J, jrow l = J := ⟨_, rfl⟩
      have HCat : Hid ((⟨J.toArray⟩ : ByteArray) ++ ⟨([10] : List UInt8).toArray⟩ = ⟨(jrow l ++ [10]).toArray⟩) := Lib.hid (by rw [hJ]; exact cat_bytes J [10])
      clear hJl HE
      have HPost : Hid (∀ x, x = (⟨(jrow l ++ [10]).toArray⟩ : ByteArray) → Ending.returned (Value.string x) = .returned (.string ⟨(jrow l ++ [10]).toArray⟩)) := Lib.hid (fun x h => by rw [h])
      rw [show (⟨(jrow l).toArray⟩ : ByteArray) = ⟨J.toArray⟩ by rw [hJ]]
      rw [hJ] at hcat
      clear hJ
      go_wp2_with fail
      go_ret
      exact ⟨congrArg (fun x => Ending.returned (Value.string x)) HCat.out, hK⟩

end Go.Proofs.YtpfofknjlhaanaaGreatDoor

/-
  ascii's reader: what a number and a sign compute, or with what they stop.
-/
namespace Go.Proofs.YtpfofknjlhaanaaGreatDoor
open Go.RowKit

/-- what is wrong with the number at a place, at most so much -/
def numE (s : ByteArray) (p top : Nat) : Nat := if (natN s p).2.2 ≠ 0 then (natN s p).2.2 else if top < (natN s p).1 then 5 else 0

/-- what a call of number ends with: n at the place q, or the stop with the error e -/
def NumP (s : ByteArray) (p b n q e : Nat) (w : World) (o : Ending) (w' : World) : Prop :=
  (e = 0 ∧ o = .returned (.int .i64 n) ∧ Kp (fun j => j = b) w w' ∧ Blk w' b #[.string s, .int .i64 q] 97) ∨
  (e ≠ 0 ∧ o = .panicked [{ v := stopV p e, recovered := false }] ∧ Kp (fun j => j = b) w w' ∧ Blk w' b #[.string s, .int .i64 p] 97)

set_option maxRecDepth 100000 in
set_option maxHeartbeats 1000000 in
theorem ascii_number (hNat : ∀ (s : ByteArray) (p : Nat) (u : World), s.size ≤ 9223372036854775000 → p ≤ s.size → Calls Tryz.prog 73 #[.string s, .int .i64 p] u fun e u' => e = .returned (tripI (natN s p)) ∧ Kp (fun _ => False) u u')
    (s : ByteArray) (p top b : Nat) (w : World) (hs : s.size ≤ 9223372036854775000) (hp : p ≤ s.size) (hB : Blk w b #[.string s, .int .i64 p] 97) :
    Calls Tryz.prog 55 #[.pointer (some ⟨b, 0, none⟩), .int .i64 top] w fun o w' =>
      NumP s p b (natN s p).1 (natN s p).2.1 (numE s p top) w o w' := by
  have HN := Lib.hid (fun u => hNat s p u hs hp)
  clear hNat
  unfold numE
  obtain ⟨n, q, e, hN⟩ : ∃ n q e, natN s p = (n, q, e) := ⟨_, _, _, rfl⟩
  rw [hN] at HN ⊢
  unfold tripI at HN
  simp only at HN ⊢
  clear hN
  obtain ⟨b0, b1, -, f1⟩ := hB.cells2
  have HB := Lib.hid hB
  clear hB
  have HKF := Lib.hid (fun (w1 : World) (h : Kp (fun _ => False) w.drew w1) => ((Kp.refl (fun j => j = b) w).drew).trans h (fun _ _ h => h.elim))
  have HKS := Lib.hid (fun (w1 : World) (h : Kp (fun _ => False) w.drew w1) (v : Value) => (((Kp.refl (fun j => j = b) w).drew).trans h (fun _ _ h => h.elim)).setCell (p := ⟨b, 1, none⟩) (fun _ => rfl) v)
  go_enter Tryz.func55, Tryz.ntmps55
  go_wp2_with fail
  go_region_with (go_at_call 73; refine (HN.out _).mono ?_; rintro o w1 ⟨rfl, hK1⟩)
  all_goals clear HN b0 b1 f1
  all_goals have HB1 := Lib.hid (HB.out.drew.kp hK1 (fun h => h))
  all_goals have HK1 := Lib.hid hK1
  all_goals clear hK1
  all_goals obtain ⟨c0, c1, -, g1⟩ := HB1.out.cells2
  all_goals by_cases he : e = 0
  all_goals try subst he
  · by_cases ht : top < n
    · have d1 : decide ((top : Int) < (n : Int)) = true := by simp; omega
      go_wp2_with fail
      refine (ascii_fail _ _ _ _).mono ?_
      rintro o w' ⟨rfl, rfl⟩
      go_wp2_with fail
      refine ⟨rfl, ?_⟩
      unfold NumP
      refine .inr ⟨?_, ?_, HKF.out _ HK1.out, HB1.out⟩
      · (first | exact he | rfl | decide | omega | (simp only [ht, he, ne_eq, not_true_eq_false, not_false_eq_true, if_true, if_false]; first | rfl | omega))
      · (first | exact he | rfl | decide | omega | (simp only [ht, he, ne_eq, not_true_eq_false, not_false_eq_true, if_true, if_false]; first | rfl | omega))
    · have d1 : decide ((top : Int) < (n : Int)) = false := by simp; omega
      go_wp2_with fail
      go_ret
      unfold NumP
      refine .inl ⟨?_, rfl, HKS.out _ HK1.out _, HB1.out.set_same 1 _⟩
      (first | exact he | rfl | decide | omega | (simp only [ht, he, ne_eq, not_true_eq_false, not_false_eq_true, if_true, if_false]; first | rfl | omega))
  · have e1 : ((e : Int) == 0) = false := by rw [beq_eq_false_iff_ne]; omega
    go_wp2_with fail
    refine (ascii_fail _ _ _ _).mono ?_
    rintro o w' ⟨rfl, rfl⟩
    go_wp2_with fail
    refine ⟨rfl, ?_⟩
    unfold NumP
    refine .inr ⟨?_, ?_, HKF.out _ HK1.out, HB1.out⟩
    · (first | exact he | rfl | decide | omega | (simp only [ht, he, ne_eq, not_true_eq_false, not_false_eq_true, if_true, if_false]; first | rfl | omega))
    · (first | exact he | rfl | decide | omega | (simp only [ht, he, ne_eq, not_true_eq_false, not_false_eq_true, if_true, if_false]; first | rfl | omega))
  · by_cases ht : top < n
    · have d1 : decide ((top : Int) < (n : Int)) = true := by simp; omega
      go_wp2_with fail
      refine (ascii_fail _ _ _ _).mono ?_
      rintro o w' ⟨rfl, rfl⟩
      go_wp2_with fail
      refine ⟨rfl, ?_⟩
      unfold NumP
      refine .inr ⟨?_, ?_, HKF.out _ HK1.out, HB1.out⟩
      · (first | exact he | rfl | decide | omega | (simp only [ht, he, ne_eq, not_true_eq_false, not_false_eq_true, if_true, if_false]; first | rfl | omega))
      · (first | exact he | rfl | decide | omega | (simp only [ht, he, ne_eq, not_true_eq_false, not_false_eq_true, if_true, if_false]; first | rfl | omega))
    · have d1 : decide ((top : Int) < (n : Int)) = false := by simp; omega
      go_wp2_with fail
      go_ret
      unfold NumP
      refine .inl ⟨?_, rfl, HKS.out _ HK1.out _, HB1.out.set_same 1 _⟩
      (first | exact he | rfl | decide | omega | (simp only [ht, he, ne_eq, not_true_eq_false, not_false_eq_true, if_true, if_false]; first | rfl | omega))
  · have e1 : ((e : Int) == 0) = false := by rw [beq_eq_false_iff_ne]; omega
    go_wp2_with fail
    refine (ascii_fail _ _ _ _).mono ?_
    rintro o w' ⟨rfl, rfl⟩
    go_wp2_with fail
    refine ⟨rfl, ?_⟩
    unfold NumP
    refine .inr ⟨?_, ?_, HKF.out _ HK1.out, HB1.out⟩
    · (first | exact he | rfl | decide | omega | (simp only [ht, he, ne_eq, not_true_eq_false, not_false_eq_true, if_true, if_false]; first | rfl | omega))
    · (first | exact he | rfl | decide | omega | (simp only [ht, he, ne_eq, not_true_eq_false, not_false_eq_true, if_true, if_false]; first | rfl | omega))

end Go.Proofs.YtpfofknjlhaanaaGreatDoor

/-
  ascii's reader: what a sign computes, or with what it stops.
-/
namespace Go.Proofs.YtpfofknjlhaanaaGreatDoor
open Go.RowKit

/-- what a call of sign ends with: the sign, if it is one of some, or the stop -/
def SignP (s : ByteArray) (p b : Nat) (ok : Bool) (w : World) (o : Ending) (w' : World) : Prop :=
  (p < s.size ∧ ok = true ∧ o = .returned (.int .u8 (bt s p)) ∧ Kp (fun j => j = b) w w' ∧ Blk w' b #[.string s, .int .i64 (p + 1 : Nat)] 97) ∨
  (p = s.size ∧ o = .panicked [{ v := stopV p 3, recovered := false }] ∧ Kp (fun j => j = b) w w' ∧ Blk w' b #[.string s, .int .i64 p] 97) ∨
  (p < s.size ∧ ok = false ∧ o = .panicked [{ v := stopV p 2, recovered := false }] ∧ Kp (fun j => j = b) w w' ∧ Blk w' b #[.string s, .int .i64 p] 97)

set_option maxRecDepth 100000 in
set_option maxHeartbeats 1000000 in
theorem ascii_sign (s some_ : ByteArray) (p b : Nat) (ok : Bool) (i : Int) (w : World) (hs : s.size ≤ 9223372036854775000) (hp : p ≤ s.size) (hok : p < s.size → decide (i < 0) = !ok)
    (hidx : ∀ u : World, p < s.size → Calls Tryz.prog 33 #[.string some_, .int .u8 (bt s p : Nat)] u fun e u' => e = .returned (.int .i64 i) ∧ u' = u)
    (hB : Blk w b #[.string s, .int .i64 p] 97) :
    Calls Tryz.prog 56 #[.pointer (some ⟨b, 0, none⟩), .string some_] w fun o w' => SignP s p b ok w o w' := by
  obtain ⟨b0, b1, -, f1⟩ := hB.cells2
  have HB := Lib.hid hB
  clear hB
  by_cases hlt : p < s.size
  · have t1 : ((p : Int) == (s.size : Int)) = false := by rw [beq_eq_false_iff_ne]; omega
    have l1 : (p : Int) < (s.size : Int) := by omega
    have hb := bt_eq hlt
    have HI := Lib.hid (fun u => hidx u hlt)
    have hok := hok hlt
    clear hidx
    generalize hBB : bt s p = B at hb HI
    have HBB := Lib.hid hBB
    clear hBB
    go_enter Tryz.func56, Tryz.ntmps56
    go_wp2_with fail
    go_region
    go_wp2_with fail
    go_region
    go_wp2_with fail
    refine (HI.out _).mono ?_
    rintro e u' ⟨rfl, rfl⟩
    cases ok with
    | true =>
      go_wp2_with fail
      go_ret
      unfold SignP
      rw [HBB.out]
      exact .inl ⟨hlt, rfl, rfl, ((((Kp.refl (fun j => j = b) w).setCell (p := ⟨b, 1, none⟩) (fun _ => rfl) _).drew).drew), ((HB.out.set_same 1 _).drew).drew⟩
    | false =>
      go_wp2_with fail
      refine (ascii_fail _ _ _ _).mono ?_
      rintro o w' ⟨rfl, rfl⟩
      go_wp2_with fail
      refine ⟨rfl, ?_⟩
      unfold SignP
      exact .inr (.inr ⟨hlt, rfl, rfl, ((Kp.refl _ w).drew).drew, HB.out.drew.drew⟩)
  · have t1 : ((p : Int) == (s.size : Int)) = true := by rw [beq_iff_eq]; omega
    clear hidx
    go_enter Tryz.func56, Tryz.ntmps56
    go_wp2_with fail
    go_region
    go_wp2_with fail
    refine (ascii_fail _ _ _ _).mono ?_
    rintro o w' ⟨rfl, rfl⟩
    go_wp2_with fail
    refine ⟨rfl, ?_⟩
    unfold SignP
    exact .inr (.inl ⟨by omega, rfl, (Kp.refl _ w).drew, HB.out.drew⟩)

end Go.Proofs.YtpfofknjlhaanaaGreatDoor

/-
  ascii.ReadHead: what it computes: the head with which a text begins.
-/
namespace Go.Proofs.YtpfofknjlhaanaaGreatDoor
open Go.RowKit

/-- a head as a value -/
def headV (b : Bool) (l : List Nat) : Value := .agg #[.bool b, .int .i64 (nth l 0), .int .i64 (nth l 1), .int .i64 (nth l 2), .int .i64 (nth l 3), .int .i64 (nth l 4), .int .i64 (nth l 5), .int .i64 (nth l 6)]
def headC (b : Bool) (l : List Nat) : Array Value := #[.bool b, .int .i64 (nth l 0), .int .i64 (nth l 1), .int .i64 (nth l 2), .int .i64 (nth l 3), .int .i64 (nth l 4), .int .i64 (nth l 5), .int .i64 (nth l 6)]

/-- the nine cells -/
def arr (l : List Nat) : Array Value := #[.int .i64 (nth l 0), .int .i64 (nth l 1), .int .i64 (nth l 2), .int .i64 (nth l 3), .int .i64 (nth l 4), .int .i64 (nth l 5), .int .i64 (nth l 6), .int .i64 (nth l 7), .int .i64 (nth l 8)]

theorem arr_get (l : List Nat) : ∀ i, i < 9 → (arr l)[i]? = some (.int .i64 (nth l i))
  | 0, _ => rfl | 1, _ => rfl | 2, _ => rfl | 3, _ => rfl | 4, _ => rfl | 5, _ => rfl | 6, _ => rfl | 7, _ => rfl | 8, _ => rfl
  | n + 9, h => by omega

theorem arr_set (l : List Nat) (n : Nat) (_h : l.length ≤ 8) : (arr l).setIfInBounds l.length (.int .i64 (n : Nat)) = arr (l ++ [n]) := by
  apply Array.ext_getElem?
  intro i
  by_cases hi : i < 9
  · rw [arr_get _ i hi, Array.getElem?_setIfInBounds]
    by_cases e : l.length = i
    · subst e
      rw [if_pos rfl, if_pos (show l.length < (arr l).size by show l.length < 9; omega), nth_snoc]
    · rw [if_neg e, arr_get _ i hi]
      congr 2
      rcases Nat.lt_or_ge i l.length with h1 | h1
      · rw [nth_snoc_lt h1]
      · rw [nth_ge h1, nth_ge (by simp; omega)]
  · rw [Array.getElem?_eq_none (by rw [Array.size_setIfInBounds]; show 9 ≤ i; omega), Array.getElem?_eq_none (by show 9 ≤ i; omega)]

/-- the library's contracts that a reader needs -/
structure RdK : Prop where
  nat : ∀ (s : ByteArray) (p : Nat) (u : World), s.size ≤ 9223372036854775000 → p ≤ s.size → Calls Tryz.prog 73 #[.string s, .int .i64 p] u fun e u' => e = .returned (tripI (natN s p)) ∧ Kp (fun _ => False) u u'
  idx : ∀ (s : ByteArray) (c : Int) (u : World), Calls Tryz.prog 33 #[.string s, .int .u8 c] u fun e u' => e = .returned (.int .i64 (Lib.indexByte s.data.toList c.toNat.toUInt8)) ∧ u' = u
  pre : ∀ (s p : ByteArray) (u : World), Calls Tryz.prog 53 #[.string s, .string p] u fun e u' => e = .returned (.bool (Lib.hasPrefix s.data.toList p.data.toList)) ∧ u' = u

theorem isHead_pre (s : ByteArray) : (Lib.hasPrefix s.data.toList [97, 97, 103, 32] = true ∨ Lib.hasPrefix s.data.toList [97, 105, 103, 32] = true) ↔ isHead s := by
  have hb : ∀ (i : Nat) (b : UInt8), s.data.toList[i]? = some b → bt s i = b.toNat := fun i b h => by
    have h1 := (List.getElem?_eq_some_iff.1 h).1
    rw [← Lib.size_eq] at h1
    obtain ⟨c, hc, hc2⟩ := byte_at (s := s) (i := i) h1
    rw [h] at hc
    rw [← hc2, Option.some.inj hc]
  have hz := Lib.size_eq s
  unfold isHead Lib.hasPrefix
  generalize s.data.toList = L at hb hz
  have e97 : ∀ b : UInt8, (97 == b) = true ↔ b.toNat = 97 := fun b => by rw [beq_iff_eq]; exact ⟨fun h => by rw [← h]; rfl, fun h => UInt8.toNat_inj.1 (by rw [h]; rfl)⟩
  have e105 : ∀ b : UInt8, (105 == b) = true ↔ b.toNat = 105 := fun b => by rw [beq_iff_eq]; exact ⟨fun h => by rw [← h]; rfl, fun h => UInt8.toNat_inj.1 (by rw [h]; rfl)⟩
  have e103 : ∀ b : UInt8, (103 == b) = true ↔ b.toNat = 103 := fun b => by rw [beq_iff_eq]; exact ⟨fun h => by rw [← h]; rfl, fun h => UInt8.toNat_inj.1 (by rw [h]; rfl)⟩
  have e32 : ∀ b : UInt8, (32 == b) = true ↔ b.toNat = 32 := fun b => by rw [beq_iff_eq]; exact ⟨fun h => by rw [← h]; rfl, fun h => UInt8.toNat_inj.1 (by rw [h]; rfl)⟩
  match L, hb, hz with
  | [], _, hz => simp at hz; simp [List.isPrefixOf, hz]
  | [a], _, hz => simp at hz; simp [List.isPrefixOf, hz]
  | [a, b], _, hz => simp at hz; simp [List.isPrefixOf, hz]
  | [a, b, c], _, hz => simp at hz; simp [List.isPrefixOf, hz]
  | a :: b :: c :: d :: r, hb, hz =>
    simp only [List.isPrefixOf, Bool.and_true, Bool.and_eq_true, e97, e105, e103, e32]
    rw [hb 0 a rfl, hb 1 b rfl, hb 2 c rfl, hb 3 d rfl]
    simp only [List.length_cons] at hz
    omega

theorem Blk.cells8 {w : World} {b : Nat} {x0 x1 x2 x3 x4 x5 x6 x7 : Value} {t : TypeId} (h : Blk w b #[x0, x1, x2, x3, x4, x5, x6, x7] t) :
    w.cell? ⟨b, 0, none⟩ = some x0 ∧ w.cell? ⟨b, 1, none⟩ = some x1 ∧ w.cell? ⟨b, 2, none⟩ = some x2 ∧ w.cell? ⟨b, 3, none⟩ = some x3 ∧ w.cell? ⟨b, 4, none⟩ = some x4 ∧ w.cell? ⟨b, 5, none⟩ = some x5 ∧ w.cell? ⟨b, 6, none⟩ = some x6 ∧ w.cell? ⟨b, 7, none⟩ = some x7 :=
  ⟨h.cell rfl, h.cell rfl, h.cell rfl, h.cell rfl, h.cell rfl, h.cell rfl, h.cell rfl, h.cell rfl⟩

theorem Blk.set8 {w : World} {b : Nat} {x0 x1 x2 x3 x4 x5 x6 x7 : Value} {t : TypeId} (h : Blk w b #[x0, x1, x2, x3, x4, x5, x6, x7] t) (y0 y1 y2 y3 y4 y5 y6 y7 : Value) :
    Blk ((((((((w.setCell ⟨b, 0, none⟩ y0).setCell ⟨b, 1, none⟩ y1).setCell ⟨b, 2, none⟩ y2).setCell ⟨b, 3, none⟩ y3).setCell ⟨b, 4, none⟩ y4).setCell ⟨b, 5, none⟩ y5).setCell ⟨b, 6, none⟩ y6).setCell ⟨b, 7, none⟩ y7) b #[y0, y1, y2, y3, y4, y5, y6, y7] t := by
  have h7 := (((((((h.set_same 0 y0).set_same 1 y1).set_same 2 y2).set_same 3 y3).set_same 4 y4).set_same 5 y5).set_same 6 y6).set_same 7 y7
  simpa only [List.setIfInBounds_toArray, List.set_cons_zero, List.set_cons_succ] using h7

theorem Kp.set8 {S : Nat → Prop} {a w : World} (h : Kp S a w) {b : Nat} (hb : b < a.heap.size → S b) (y0 y1 y2 y3 y4 y5 y6 y7 : Value) :
    Kp S a ((((((((w.setCell ⟨b, 0, none⟩ y0).setCell ⟨b, 1, none⟩ y1).setCell ⟨b, 2, none⟩ y2).setCell ⟨b, 3, none⟩ y3).setCell ⟨b, 4, none⟩ y4).setCell ⟨b, 5, none⟩ y5).setCell ⟨b, 6, none⟩ y6).setCell ⟨b, 7, none⟩ y7) :=
  (((((((h.setCell (p := ⟨b, 0, none⟩) hb y0).setCell (p := ⟨b, 1, none⟩) hb y1).setCell (p := ⟨b, 2, none⟩) hb y2).setCell (p := ⟨b, 3, none⟩) hb y3).setCell (p := ⟨b, 4, none⟩) hb y4).setCell (p := ⟨b, 5, none⟩) hb y5).setCell (p := ⟨b, 6, none⟩) hb y6).setCell (p := ⟨b, 7, none⟩) hb y7

/-- the blocks of a call of ReadHead: the result's head, place and error; the reader; the numbers -/
structure HBlk (s : ByteArray) (w wr : World) (p : Nat) (l : List Nat) : Prop where
  b0 : Blk wr w.heap.size (headC false []) 41
  b1 : Blk wr (w.heap.size + 1) #[.int .i64 0] 3
  b2 : Blk wr (w.heap.size + 1 + 1) #[.int .i64 0] 30
  b3 : Blk wr (w.heap.size + 1 + 1 + 1) #[.string s, .int .i64 p] 97
  b4 : Blk wr (w.heap.size + 1 + 1 + 1 + 1) (arr l) 98
  kp : Kp (fun _ => False) w wr

theorem HBlk.reader {s : ByteArray} {w wr w1 : World} {p q : Nat} {l : List Nat} (h : HBlk s w wr p l) (hK : Kp (fun j => j = w.heap.size + 1 + 1 + 1) wr w1)
    (hB : Blk w1 (w.heap.size + 1 + 1 + 1) #[.string s, .int .i64 q] 97) : HBlk s w w1 q l :=
  ⟨h.b0.kp hK (by omega), h.b1.kp hK (by omega), h.b2.kp hK (by omega), hB, h.b4.kp hK (by omega), h.kp.trans hK (fun i hi h => by omega)⟩

theorem HBlk.store {s : ByteArray} {w wr : World} {p : Nat} {l : List Nat} (h : HBlk s w wr p l) (n : Nat) (hl : l.length ≤ 8) :
    HBlk s w (wr.setCell ⟨w.heap.size + 1 + 1 + 1 + 1, l.length, none⟩ (.int .i64 (n : Nat))) p (l ++ [n]) :=
  ⟨h.b0.set_other (by simp <;> omega) _, h.b1.set_other (by simp <;> omega) _, h.b2.set_other (by simp <;> omega) _, h.b3.set_other (by simp) _,
    by have := h.b4.set_same l.length (.int .i64 (n : Nat)); rwa [arr_set l n hl] at this,
    h.kp.setCell (p := ⟨w.heap.size + 1 + 1 + 1 + 1, l.length, none⟩) (by simp; omega) _⟩

theorem HBlk.drew {s : ByteArray} {w wr : World} {p : Nat} {l : List Nat} (h : HBlk s w wr p l) : HBlk s w wr.drew p l := ⟨h.b0, h.b1, h.b2, h.b3, h.b4, h.kp.drew⟩

theorem HBlk.new (s : ByteArray) (w : World) : HBlk s w (((((w.alloc (.cells #[.bool false, .int .i64 0, .int .i64 0, .int .i64 0, .int .i64 0, .int .i64 0, .int .i64 0, .int .i64 0] 41)).alloc (.cells #[.int .i64 0] 3)).alloc
    (.cells #[.int .i64 0] 30)).alloc (.cells #[.string s, .int .i64 4] 97)).alloc (.cells #[.int .i64 0, .int .i64 0, .int .i64 0, .int .i64 0, .int .i64 0, .int .i64 0, .int .i64 0, .int .i64 0, .int .i64 0] 98)) 4 [] := by
  have key : ∀ (u : World) (c : Array Value) (t : TypeId) (n : Nat), u.heap.size = n → Blk (u.alloc (.cells c t)) n c t := fun u c t n h => by subst h; exact Blk.new u c t
  refine ⟨((((Blk.new w _ _).alloc _).alloc _).alloc _).alloc _, (((key _ _ _ _ (by simp)).alloc _).alloc _).alloc _, ((key _ _ _ _ (by simp)).alloc _).alloc _, (key _ _ _ _ (by simp)).alloc _, key _ _ _ _ (by simp),
    (((((Kp.refl _ w).alloc _).alloc _).alloc _).alloc _).alloc _⟩

/-- what ReadHead answers -/
def HeadP (s : ByteArray) (w : World) (o : Ending) (w' : World) : Prop :=
  o = .returned (.tuple #[headV (headT s).1 (headT s).2.1, .int .i64 (headT s).2.2.1, .int .i64 (headT s).2.2.2]) ∧ Kp (fun _ => False) w w'

/-- whether a sign may stand behind the number k -/
def okS (k B : Nat) : Bool := decide (B = 32 ∧ k < 8 ∨ B = 10 ∧ 4 ≤ k)

theorem byte_is {B v : Nat} (hB : B < 256) (hv : v < 256) : (v.toUInt8 == B.toUInt8) = decide (B = v) := by
  by_cases h : B = v
  · subst h; simp
  · rw [decide_eq_false h, beq_eq_false_iff_ne]
    intro e
    have := congrArg UInt8.toNat e
    rw [UInt8.toNat_ofNat', UInt8.toNat_ofNat'] at this
    omega

theorem idx_is (k B : Nat) (hB : B < 256) (some_ : ByteArray) (hk : k < 4 ∧ some_ = ⟨#[32]⟩ ∨ 4 ≤ k ∧ k < 8 ∧ some_ = ⟨#[32, 10]⟩ ∨ k = 8 ∧ some_ = ⟨#[10]⟩) :
    decide (Lib.indexByte some_.data.toList B.toUInt8 < 0) = !okS k B := by
  have e32 : ((32 : UInt8) == B.toUInt8) = decide (B = 32) := byte_is (v := 32) hB (by decide)
  have e10 : ((10 : UInt8) == B.toUInt8) = decide (B = 10) := byte_is (v := 10) hB (by decide)
  unfold okS
  by_cases h1 : B = 32 <;> by_cases h2 : B = 10 <;> rcases hk with ⟨hk, rfl⟩ | ⟨hk, hk2, rfl⟩ | ⟨hk, rfl⟩ <;> simp [Lib.indexByte, e32, e10, h1, h2] <;> omega

theorem sign_k (K : RdK) (s : ByteArray) (q b k : Nat) (u : World) (some_ : ByteArray) (hs : s.size ≤ 2000000) (hq : q ≤ s.size)
    (hk : k < 4 ∧ some_ = ⟨#[32]⟩ ∨ 4 ≤ k ∧ k < 8 ∧ some_ = ⟨#[32, 10]⟩ ∨ k = 8 ∧ some_ = ⟨#[10]⟩) (hB : Blk u b #[.string s, .int .i64 q] 97) :
    Calls Tryz.prog 56 #[.pointer (some ⟨b, 0, none⟩), .string some_] u fun o w' => SignP s q b (okS k (bt s q)) u o w' := by
  refine ascii_sign s some_ q b _ _ u (by omega) hq (fun _ => ?_) (fun v _ => K.idx _ _ v) hB
  have hlt := bt_lt s q
  generalize bt s q = B at hlt
  rw [Int.toNat_natCast]
  exact idx_is k B hlt some_ hk

end Go.Proofs.YtpfofknjlhaanaaGreatDoor

/-
  A head's line, as the program and as the reference writes it. (Printed by mkawrite.py.)
-/
namespace Go.Proofs.YtpfofknjlhaanaaGreatDoor
open Go.RowKit

theorem wintInfo : (Tryz.prog.info? 3).map (fun i => (i.zero, i.size, i.bytes)) = some (some (.int .i64 0), 1, 8) := by kernel_rfl
theorem own_lit {w : World} {base g : Nat} {e : TypeId} {cs : List Value} (h : Blk w g cs.toArray e) (hg : base ≤ g) (hn : cs.length ≤ maxLen) : Own w base e (.slice (some ⟨g, 0, none⟩) cs.length cs.length) cs :=
  ⟨by simp, .inr ⟨g, cs.length, cs.toArray, rfl, hg, h, Nat.le_refl _, hn, by simp, by simp⟩⟩

theorem headW_eq {b : Bool} {h l : List Int} (hw : wrow h = l) : headW b h = (if b = true then [97, 105, 103, 32] else [97, 97, 103, 32]) ++ (jrow l ++ [10]) := by
  unfold headW jrow; rw [hw]

theorem head_cat_true {h l : List Int} (hw : wrow h = l) : (⟨#[97, 105, 103, 32]⟩ : ByteArray) ++ ⟨(jrow l ++ [10]).toArray⟩ = ⟨(headW true h).toArray⟩ := by
  rw [headW_eq hw, if_pos rfl]; exact cat_bytes [97, 105, 103, 32] _
theorem head_cat_false {h l : List Int} (hw : wrow h = l) : (⟨#[97, 97, 103, 32]⟩ : ByteArray) ++ ⟨(jrow l ++ [10]).toArray⟩ = ⟨(headW false h).toArray⟩ := by
  rw [headW_eq hw, if_neg (by decide)]; exact cat_bytes [97, 97, 103, 32] _

theorem jrow_small {l : List Int} (h : ∀ x ∈ l, okI x) (h7 : l.length ≤ 7) : (jrow l ++ [10]).length ≤ 155 := by
  have := jrow_take_len h l.length (Nat.le_refl _)
  rw [List.take_length] at this
  simp; omega

set_option maxRecDepth 100000 in
set_option maxHeartbeats 4000000 in
theorem ascii_WriteHead (b : Bool) (x0 x1 x2 x3 x4 x5 x6 : Int) (w : World) (hok : ∀ x ∈ [x0, x1, x2, x3, x4, x5, x6], okI x) (ht : Tab w) :
    Calls Tryz.prog 13 #[.agg #[.bool b, .int .i64 x0, .int .i64 x1, .int .i64 x2, .int .i64 x3, .int .i64 x4, .int .i64 x5, .int .i64 x6]] w fun e w' => e = .returned (.string ⟨(headW b [x0, x1, x2, x3, x4, x5, x6]).toArray⟩) ∧ Kp (fun _ => False) w w' := by
  have HOk := Lib.hid hok
  have HT := Lib.hid ht
  clear hok ht
  obtain ⟨wz, hwz⟩ : ∃ wz : World, wz = (w.alloc (.cells #[.bool b, .int .i64 x0, .int .i64 x1, .int .i64 x2, .int .i64 x3, .int .i64 x4, .int .i64 x5, .int .i64 x6] 41)).alloc (.cells #[.int .i64 x0, .int .i64 x1, .int .i64 x2, .int .i64 x3, .int .i64 x4] 3) := ⟨_, rfl⟩
  have HBz : Hid (Blk wz w.heap.size #[.bool b, .int .i64 x0, .int .i64 x1, .int .i64 x2, .int .i64 x3, .int .i64 x4, .int .i64 x5, .int .i64 x6] 41) := Lib.hid (by rw [hwz]; exact (Blk.new w _ _).alloc _)
  have HKz : Hid (Kp (fun _ => False) w wz) := Lib.hid (by rw [hwz]; exact ((Kp.refl _ w).alloc _).alloc _)
  obtain ⟨az, haz⟩ : ∃ az : Option Addr, az = some ⟨w.heap.size + 1, 0, none⟩ := ⟨_, rfl⟩
  obtain ⟨cz, hcz⟩ : ∃ cz : Nat, cz = 5 := ⟨_, rfl⟩
  have HOz : Hid (Own wz (w.heap.size + 1) 3 (.slice az 5 cz) [Value.int .i64 x0, Value.int .i64 x1, Value.int .i64 x2, Value.int .i64 x3, Value.int .i64 x4]) := Lib.hid (by
    rw [hwz, haz, hcz]
    have hb : Blk ((w.alloc (.cells #[.bool b, .int .i64 x0, .int .i64 x1, .int .i64 x2, .int .i64 x3, .int .i64 x4, .int .i64 x5, .int .i64 x6] 41)).alloc (.cells #[.int .i64 x0, .int .i64 x1, .int .i64 x2, .int .i64 x3, .int .i64 x4] 3)) (w.heap.size + 1) #[.int .i64 x0, .int .i64 x1, .int .i64 x2, .int .i64 x3, .int .i64 x4] 3 := by
      have := Blk.new (w.alloc (.cells #[.bool b, .int .i64 x0, .int .i64 x1, .int .i64 x2, .int .i64 x3, .int .i64 x4, .int .i64 x5, .int .i64 x6] 41)) #[.int .i64 x0, .int .i64 x1, .int .i64 x2, .int .i64 x3, .int .i64 x4] 3
      rwa [World.size_alloc] at this
    exact own_lit (cs := [Value.int .i64 x0, Value.int .i64 x1, Value.int .i64 x2, Value.int .i64 x3, Value.int .i64 x4]) hb (Nat.le_refl _) (by simp [maxLen]))
  have HFirst := Lib.hid (And.intro hwz (And.intro haz hcz))
  clear hwz haz hcz
  by_cases e5 : x5 = 0
  · by_cases e6 : x6 = 0
    · have n5 : (x5 != 0) = false := by simpa using e5
      have n6 : (x6 != 0) = false := by simpa using e6
      have HW : Hid (wrow [x0, x1, x2, x3, x4, x5, x6] = [x0, x1, x2, x3, x4]) := Lib.hid (by simp [wrow, gi, e5, e6])
      clear e5 e6
      go_enter Tryz.func13, Tryz.ntmps13
      go_upto_region 2 with fail
      rw [show (w.alloc (.cells #[.bool b, .int .i64 x0, .int .i64 x1, .int .i64 x2, .int .i64 x3, .int .i64 x4, .int .i64 x5, .int .i64 x6] 41)).alloc (.cells #[.int .i64 x0, .int .i64 x1, .int .i64 x2, .int .i64 x3, .int .i64 x4] 3) = wz from HFirst.out.1.symm]
      rw [show Value.slice (some ⟨w.heap.size + 1, 0, none⟩) 5 5 = .slice az 5 cz from by rw [HFirst.out.2.1, HFirst.out.2.2]]
      clear HFirst
      obtain ⟨z0, z1, z2, z3, z4, z5, z6, z7⟩ := HBz.out.cells8
      have hlz := HBz.out.lt
      have HRow := Lib.hid (ascii_row az cz [x0, x1, x2, x3, x4] 5 wz (by obtain ⟨_, _, hv, _, _, _, hr⟩ := HOz.out.form; cases hv; exact hr) rfl (by decide) (fun x hx => HOk.out x (by simp at hx ⊢; omega)) (HT.out.kp HKz.out))
      have hcl := jrow_small (l := [x0, x1, x2, x3, x4]) (fun x hx => HOk.out x (by simp at hx ⊢; omega)) (by simp)
      obtain ⟨R, hR⟩ : ∃ R, jrow [x0, x1, x2, x3, x4] ++ [10] = R := ⟨_, rfl⟩
      rw [hR] at HRow hcl
      have HR := Lib.hid hR
      clear hR
      have hcat : ¬ 9223372036854775807 < 4 + R.length := by omega
      clear hcl
      cases b with
      | true =>
        go_wp2_with fail
        refine (HRow.out).mono ?_
        rintro e w4 ⟨rfl, hK4⟩
        have HE := Lib.hid (HR.out ▸ head_cat_true HW.out)
        have HK4 := Lib.hid (HKz.out.trans hK4 (fun _ _ h => h))
        clear hK4
        go_wp2_with fail
        go_ret
        exact ⟨congrArg (fun x => Ending.returned (Value.string x)) HE.out, HK4.out⟩
      | false =>
        go_wp2_with fail
        refine (HRow.out).mono ?_
        rintro e w4 ⟨rfl, hK4⟩
        have HE := Lib.hid (HR.out ▸ head_cat_false HW.out)
        have HK4 := Lib.hid (HKz.out.trans hK4 (fun _ _ h => h))
        clear hK4
        go_wp2_with fail
        go_ret
        exact ⟨congrArg (fun x => Ending.returned (Value.string x)) HE.out, HK4.out⟩
    · have n5 : (x5 != 0) = false := by simpa using e5
      have n6 : (x6 != 0) = true := by simpa using e6
      have HW : Hid (wrow [x0, x1, x2, x3, x4, x5, x6] = [x0, x1, x2, x3, x4, x5, x6]) := Lib.hid (by simp [wrow, gi, e5, e6])
      clear e5 e6
      go_enter Tryz.func13, Tryz.ntmps13
      go_upto_region 2 with fail
      rw [show (w.alloc (.cells #[.bool b, .int .i64 x0, .int .i64 x1, .int .i64 x2, .int .i64 x3, .int .i64 x4, .int .i64 x5, .int .i64 x6] 41)).alloc (.cells #[.int .i64 x0, .int .i64 x1, .int .i64 x2, .int .i64 x3, .int .i64 x4] 3) = wz from HFirst.out.1.symm]
      rw [show Value.slice (some ⟨w.heap.size + 1, 0, none⟩) 5 5 = .slice az 5 cz from by rw [HFirst.out.2.1, HFirst.out.2.2]]
      clear HFirst
      obtain ⟨z0, z1, z2, z3, z4, z5, z6, z7⟩ := HBz.out.cells8
      have hlz := HBz.out.lt
      go_wp2_with (at_builtin; refine wpList_append1 rfl _ _ 24 3 rfl Tryz.underlying24 wintInfo rfl (HOz.out.alloc _) rfl ⟨wz.heap.size, 0, none⟩ (.int .i64 x5) rfl ?c1 rfl ?c2 ?c3 ?c4 ?_)
      case c1 => simp
      case c2 => simp
      case c3 => simp [maxLen]
      case c4 => have := HKz.out.size; have := HBz.out.lt; simp; omega
      intro v3 w3 hO3 hg3
      have hK3 : Kp (fun j => (Value.slice az 5 cz).ownBlock = some j) wz w3 := ((Kp.refl _ wz).alloc _).grown hg3 (fun j hj _ => hj)
      have hown := fun j (h : (Value.slice az 5 cz).ownBlock = some j) => (HOz.out.lt j h).1
      have HB3 := Lib.hid (HBz.out.kp hK3 (fun h => by have := hown _ h; omega))
      have HK3 := Lib.hid (HKz.out.trans hK3 (fun j hj h => by have := hown j h; omega))
      have hO4 : Own w3 (w.heap.size + 1) 3 v3 [Value.int .i64 x0, Value.int .i64 x1, Value.int .i64 x2, Value.int .i64 x3, Value.int .i64 x4, Value.int .i64 x5] := hO3
      obtain ⟨a3, c3, hv3, _, _, _, _⟩ := hO4.form
      rw [show ([Value.int .i64 x0, Value.int .i64 x1, Value.int .i64 x2, Value.int .i64 x3, Value.int .i64 x4, Value.int .i64 x5]).length = 6 from rfl] at hv3
      subst hv3
      have HO3 := Lib.hid hO4
      clear hO3 hg3 hK3 hown hO4 HBz HOz HKz z0 z1 z2 z3 z4 z5 z6 z7 hlz
      rename Hid (Blk w3 _ _ _) => HBz
      rename Hid (Own w3 _ _ _ _) => HOz
      rename Hid (Kp _ w w3) => HKz
      obtain ⟨az, haz⟩ : ∃ az, az = a3 := ⟨_, rfl⟩
      obtain ⟨cz, hcz⟩ : ∃ cz, cz = c3 := ⟨_, rfl⟩
      obtain ⟨wz, hwz⟩ : ∃ wz, wz = w3 := ⟨_, rfl⟩
      subst haz hcz hwz
      obtain ⟨z0, z1, z2, z3, z4, z5, z6, z7⟩ := HBz.out.cells8
      have hlz := HBz.out.lt
      go_wp2_with (at_builtin; refine wpList_append1 rfl _ _ 24 3 rfl Tryz.underlying24 wintInfo rfl (HOz.out.alloc _) rfl ⟨wz.heap.size, 0, none⟩ (.int .i64 x6) rfl ?c1 rfl ?c2 ?c3 ?c4 ?_)
      case c1 => simp
      case c2 => simp
      case c3 => simp [maxLen]
      case c4 => have := HKz.out.size; have := HBz.out.lt; simp; omega
      intro v3 w3 hO3 hg3
      have hK3 : Kp (fun j => (Value.slice az 6 cz).ownBlock = some j) wz w3 := ((Kp.refl _ wz).alloc _).grown hg3 (fun j hj _ => hj)
      have hown := fun j (h : (Value.slice az 6 cz).ownBlock = some j) => (HOz.out.lt j h).1
      have HB3 := Lib.hid (HBz.out.kp hK3 (fun h => by have := hown _ h; omega))
      have HK3 := Lib.hid (HKz.out.trans hK3 (fun j hj h => by have := hown j h; omega))
      have hO4 : Own w3 (w.heap.size + 1) 3 v3 [Value.int .i64 x0, Value.int .i64 x1, Value.int .i64 x2, Value.int .i64 x3, Value.int .i64 x4, Value.int .i64 x5, Value.int .i64 x6] := hO3
      obtain ⟨a3, c3, hv3, _, _, _, _⟩ := hO4.form
      rw [show ([Value.int .i64 x0, Value.int .i64 x1, Value.int .i64 x2, Value.int .i64 x3, Value.int .i64 x4, Value.int .i64 x5, Value.int .i64 x6]).length = 7 from rfl] at hv3
      subst hv3
      have HO3 := Lib.hid hO4
      clear hO3 hg3 hK3 hown hO4 HBz HOz HKz z0 z1 z2 z3 z4 z5 z6 z7 hlz
      rename Hid (Blk w3 _ _ _) => HBz
      rename Hid (Own w3 _ _ _ _) => HOz
      rename Hid (Kp _ w w3) => HKz
      obtain ⟨az, haz⟩ : ∃ az, az = a3 := ⟨_, rfl⟩
      obtain ⟨cz, hcz⟩ : ∃ cz, cz = c3 := ⟨_, rfl⟩
      obtain ⟨wz, hwz⟩ : ∃ wz, wz = w3 := ⟨_, rfl⟩
      subst haz hcz hwz
      obtain ⟨z0, z1, z2, z3, z4, z5, z6, z7⟩ := HBz.out.cells8
      have hlz := HBz.out.lt
      have HRow := Lib.hid (ascii_row az cz [x0, x1, x2, x3, x4, x5, x6] 7 wz (by obtain ⟨_, _, hv, _, _, _, hr⟩ := HOz.out.form; cases hv; exact hr) rfl (by decide) (fun x hx => HOk.out x (by simp at hx ⊢; omega)) (HT.out.kp HKz.out))
      have hcl := jrow_small (l := [x0, x1, x2, x3, x4, x5, x6]) (fun x hx => HOk.out x (by simp at hx ⊢; omega)) (by simp)
      obtain ⟨R, hR⟩ : ∃ R, jrow [x0, x1, x2, x3, x4, x5, x6] ++ [10] = R := ⟨_, rfl⟩
      rw [hR] at HRow hcl
      have HR := Lib.hid hR
      clear hR
      have hcat : ¬ 9223372036854775807 < 4 + R.length := by omega
      clear hcl
      cases b with
      | true =>
        go_wp2_with fail
        refine (HRow.out).mono ?_
        rintro e w4 ⟨rfl, hK4⟩
        have HE := Lib.hid (HR.out ▸ head_cat_true HW.out)
        have HK4 := Lib.hid (HKz.out.trans hK4 (fun _ _ h => h))
        clear hK4
        go_wp2_with fail
        go_ret
        exact ⟨congrArg (fun x => Ending.returned (Value.string x)) HE.out, HK4.out⟩
      | false =>
        go_wp2_with fail
        refine (HRow.out).mono ?_
        rintro e w4 ⟨rfl, hK4⟩
        have HE := Lib.hid (HR.out ▸ head_cat_false HW.out)
        have HK4 := Lib.hid (HKz.out.trans hK4 (fun _ _ h => h))
        clear hK4
        go_wp2_with fail
        go_ret
        exact ⟨congrArg (fun x => Ending.returned (Value.string x)) HE.out, HK4.out⟩
  · by_cases e6 : x6 = 0
    · have n5 : (x5 != 0) = true := by simpa using e5
      have n6 : (x6 != 0) = false := by simpa using e6
      have HW : Hid (wrow [x0, x1, x2, x3, x4, x5, x6] = [x0, x1, x2, x3, x4, x5]) := Lib.hid (by simp [wrow, gi, e5, e6])
      clear e5 e6
      go_enter Tryz.func13, Tryz.ntmps13
      go_upto_region 2 with fail
      rw [show (w.alloc (.cells #[.bool b, .int .i64 x0, .int .i64 x1, .int .i64 x2, .int .i64 x3, .int .i64 x4, .int .i64 x5, .int .i64 x6] 41)).alloc (.cells #[.int .i64 x0, .int .i64 x1, .int .i64 x2, .int .i64 x3, .int .i64 x4] 3) = wz from HFirst.out.1.symm]
      rw [show Value.slice (some ⟨w.heap.size + 1, 0, none⟩) 5 5 = .slice az 5 cz from by rw [HFirst.out.2.1, HFirst.out.2.2]]
      clear HFirst
      obtain ⟨z0, z1, z2, z3, z4, z5, z6, z7⟩ := HBz.out.cells8
      have hlz := HBz.out.lt
      go_wp2_with (at_builtin; refine wpList_append1 rfl _ _ 24 3 rfl Tryz.underlying24 wintInfo rfl (HOz.out.alloc _) rfl ⟨wz.heap.size, 0, none⟩ (.int .i64 x5) rfl ?c1 rfl ?c2 ?c3 ?c4 ?_)
      case c1 => simp
      case c2 => simp
      case c3 => simp [maxLen]
      case c4 => have := HKz.out.size; have := HBz.out.lt; simp; omega
      intro v3 w3 hO3 hg3
      have hK3 : Kp (fun j => (Value.slice az 5 cz).ownBlock = some j) wz w3 := ((Kp.refl _ wz).alloc _).grown hg3 (fun j hj _ => hj)
      have hown := fun j (h : (Value.slice az 5 cz).ownBlock = some j) => (HOz.out.lt j h).1
      have HB3 := Lib.hid (HBz.out.kp hK3 (fun h => by have := hown _ h; omega))
      have HK3 := Lib.hid (HKz.out.trans hK3 (fun j hj h => by have := hown j h; omega))
      have hO4 : Own w3 (w.heap.size + 1) 3 v3 [Value.int .i64 x0, Value.int .i64 x1, Value.int .i64 x2, Value.int .i64 x3, Value.int .i64 x4, Value.int .i64 x5] := hO3
      obtain ⟨a3, c3, hv3, _, _, _, _⟩ := hO4.form
      rw [show ([Value.int .i64 x0, Value.int .i64 x1, Value.int .i64 x2, Value.int .i64 x3, Value.int .i64 x4, Value.int .i64 x5]).length = 6 from rfl] at hv3
      subst hv3
      have HO3 := Lib.hid hO4
      clear hO3 hg3 hK3 hown hO4 HBz HOz HKz z0 z1 z2 z3 z4 z5 z6 z7 hlz
      rename Hid (Blk w3 _ _ _) => HBz
      rename Hid (Own w3 _ _ _ _) => HOz
      rename Hid (Kp _ w w3) => HKz
      obtain ⟨az, haz⟩ : ∃ az, az = a3 := ⟨_, rfl⟩
      obtain ⟨cz, hcz⟩ : ∃ cz, cz = c3 := ⟨_, rfl⟩
      obtain ⟨wz, hwz⟩ : ∃ wz, wz = w3 := ⟨_, rfl⟩
      subst haz hcz hwz
      obtain ⟨z0, z1, z2, z3, z4, z5, z6, z7⟩ := HBz.out.cells8
      have hlz := HBz.out.lt
      have HRow := Lib.hid (ascii_row az cz [x0, x1, x2, x3, x4, x5] 6 wz (by obtain ⟨_, _, hv, _, _, _, hr⟩ := HOz.out.form; cases hv; exact hr) rfl (by decide) (fun x hx => HOk.out x (by simp at hx ⊢; omega)) (HT.out.kp HKz.out))
      have hcl := jrow_small (l := [x0, x1, x2, x3, x4, x5]) (fun x hx => HOk.out x (by simp at hx ⊢; omega)) (by simp)
      obtain ⟨R, hR⟩ : ∃ R, jrow [x0, x1, x2, x3, x4, x5] ++ [10] = R := ⟨_, rfl⟩
      rw [hR] at HRow hcl
      have HR := Lib.hid hR
      clear hR
      have hcat : ¬ 9223372036854775807 < 4 + R.length := by omega
      clear hcl
      cases b with
      | true =>
        go_wp2_with fail
        refine (HRow.out).mono ?_
        rintro e w4 ⟨rfl, hK4⟩
        have HE := Lib.hid (HR.out ▸ head_cat_true HW.out)
        have HK4 := Lib.hid (HKz.out.trans hK4 (fun _ _ h => h))
        clear hK4
        go_wp2_with fail
        go_ret
        exact ⟨congrArg (fun x => Ending.returned (Value.string x)) HE.out, HK4.out⟩
      | false =>
        go_wp2_with fail
        refine (HRow.out).mono ?_
        rintro e w4 ⟨rfl, hK4⟩
        have HE := Lib.hid (HR.out ▸ head_cat_false HW.out)
        have HK4 := Lib.hid (HKz.out.trans hK4 (fun _ _ h => h))
        clear hK4
        go_wp2_with fail
        go_ret
        exact ⟨congrArg (fun x => Ending.returned (Value.string x)) HE.out, HK4.out⟩
    · have n5 : (x5 != 0) = true := by simpa using e5
      have n6 : (x6 != 0) = true := by simpa using e6
      have HW : Hid (wrow [x0, x1, x2, x3, x4, x5, x6] = [x0, x1, x2, x3, x4, x5, x6]) := Lib.hid (by simp [wrow, gi, e6])
      clear e5 e6
      go_enter Tryz.func13, Tryz.ntmps13
      go_upto_region 2 with fail
      rw [show (w.alloc (.cells #[.bool b, .int .i64 x0, .int .i64 x1, .int .i64 x2, .int .i64 x3, .int .i64 x4, .int .i64 x5, .int .i64 x6] 41)).alloc (.cells #[.int .i64 x0, .int .i64 x1, .int .i64 x2, .int .i64 x3, .int .i64 x4] 3) = wz from HFirst.out.1.symm]
      rw [show Value.slice (some ⟨w.heap.size + 1, 0, none⟩) 5 5 = .slice az 5 cz from by rw [HFirst.out.2.1, HFirst.out.2.2]]
      clear HFirst
      obtain ⟨z0, z1, z2, z3, z4, z5, z6, z7⟩ := HBz.out.cells8
      have hlz := HBz.out.lt
      go_wp2_with (at_builtin; refine wpList_append1 rfl _ _ 24 3 rfl Tryz.underlying24 wintInfo rfl (HOz.out.alloc _) rfl ⟨wz.heap.size, 0, none⟩ (.int .i64 x5) rfl ?c1 rfl ?c2 ?c3 ?c4 ?_)
      case c1 => simp
      case c2 => simp
      case c3 => simp [maxLen]
      case c4 => have := HKz.out.size; have := HBz.out.lt; simp; omega
      intro v3 w3 hO3 hg3
      have hK3 : Kp (fun j => (Value.slice az 5 cz).ownBlock = some j) wz w3 := ((Kp.refl _ wz).alloc _).grown hg3 (fun j hj _ => hj)
      have hown := fun j (h : (Value.slice az 5 cz).ownBlock = some j) => (HOz.out.lt j h).1
      have HB3 := Lib.hid (HBz.out.kp hK3 (fun h => by have := hown _ h; omega))
      have HK3 := Lib.hid (HKz.out.trans hK3 (fun j hj h => by have := hown j h; omega))
      have hO4 : Own w3 (w.heap.size + 1) 3 v3 [Value.int .i64 x0, Value.int .i64 x1, Value.int .i64 x2, Value.int .i64 x3, Value.int .i64 x4, Value.int .i64 x5] := hO3
      obtain ⟨a3, c3, hv3, _, _, _, _⟩ := hO4.form
      rw [show ([Value.int .i64 x0, Value.int .i64 x1, Value.int .i64 x2, Value.int .i64 x3, Value.int .i64 x4, Value.int .i64 x5]).length = 6 from rfl] at hv3
      subst hv3
      have HO3 := Lib.hid hO4
      clear hO3 hg3 hK3 hown hO4 HBz HOz HKz z0 z1 z2 z3 z4 z5 z6 z7 hlz
      rename Hid (Blk w3 _ _ _) => HBz
      rename Hid (Own w3 _ _ _ _) => HOz
      rename Hid (Kp _ w w3) => HKz
      obtain ⟨az, haz⟩ : ∃ az, az = a3 := ⟨_, rfl⟩
      obtain ⟨cz, hcz⟩ : ∃ cz, cz = c3 := ⟨_, rfl⟩
      obtain ⟨wz, hwz⟩ : ∃ wz, wz = w3 := ⟨_, rfl⟩
      subst haz hcz hwz
      obtain ⟨z0, z1, z2, z3, z4, z5, z6, z7⟩ := HBz.out.cells8
      have hlz := HBz.out.lt
      go_wp2_with (at_builtin; refine wpList_append1 rfl _ _ 24 3 rfl Tryz.underlying24 wintInfo rfl (HOz.out.alloc _) rfl ⟨wz.heap.size, 0, none⟩ (.int .i64 x6) rfl ?c1 rfl ?c2 ?c3 ?c4 ?_)
      case c1 => simp
      case c2 => simp
      case c3 => simp [maxLen]
      case c4 => have := HKz.out.size; have := HBz.out.lt; simp; omega
      intro v3 w3 hO3 hg3
      have hK3 : Kp (fun j => (Value.slice az 6 cz).ownBlock = some j) wz w3 := ((Kp.refl _ wz).alloc _).grown hg3 (fun j hj _ => hj)
      have hown := fun j (h : (Value.slice az 6 cz).ownBlock = some j) => (HOz.out.lt j h).1
      have HB3 := Lib.hid (HBz.out.kp hK3 (fun h => by have := hown _ h; omega))
      have HK3 := Lib.hid (HKz.out.trans hK3 (fun j hj h => by have := hown j h; omega))
      have hO4 : Own w3 (w.heap.size + 1) 3 v3 [Value.int .i64 x0, Value.int .i64 x1, Value.int .i64 x2, Value.int .i64 x3, Value.int .i64 x4, Value.int .i64 x5, Value.int .i64 x6] := hO3
      obtain ⟨a3, c3, hv3, _, _, _, _⟩ := hO4.form
      rw [show ([Value.int .i64 x0, Value.int .i64 x1, Value.int .i64 x2, Value.int .i64 x3, Value.int .i64 x4, Value.int .i64 x5, Value.int .i64 x6]).length = 7 from rfl] at hv3
      subst hv3
      have HO3 := Lib.hid hO4
      clear hO3 hg3 hK3 hown hO4 HBz HOz HKz z0 z1 z2 z3 z4 z5 z6 z7 hlz
      rename Hid (Blk w3 _ _ _) => HBz
      rename Hid (Own w3 _ _ _ _) => HOz
      rename Hid (Kp _ w w3) => HKz
      obtain ⟨az, haz⟩ : ∃ az, az = a3 := ⟨_, rfl⟩
      obtain ⟨cz, hcz⟩ : ∃ cz, cz = c3 := ⟨_, rfl⟩
      obtain ⟨wz, hwz⟩ : ∃ wz, wz = w3 := ⟨_, rfl⟩
      subst haz hcz hwz
      obtain ⟨z0, z1, z2, z3, z4, z5, z6, z7⟩ := HBz.out.cells8
      have hlz := HBz.out.lt
      have HRow := Lib.hid (ascii_row az cz [x0, x1, x2, x3, x4, x5, x6] 7 wz (by obtain ⟨_, _, hv, _, _, _, hr⟩ := HOz.out.form; cases hv; exact hr) rfl (by decide) (fun x hx => HOk.out x (by simp at hx ⊢; omega)) (HT.out.kp HKz.out))
      have hcl := jrow_small (l := [x0, x1, x2, x3, x4, x5, x6]) (fun x hx => HOk.out x (by simp at hx ⊢; omega)) (by simp)
      obtain ⟨R, hR⟩ : ∃ R, jrow [x0, x1, x2, x3, x4, x5, x6] ++ [10] = R := ⟨_, rfl⟩
      rw [hR] at HRow hcl
      have HR := Lib.hid hR
      clear hR
      have hcat : ¬ 9223372036854775807 < 4 + R.length := by omega
      clear hcl
      cases b with
      | true =>
        go_wp2_with fail
        refine (HRow.out).mono ?_
        rintro e w4 ⟨rfl, hK4⟩
        have HE := Lib.hid (HR.out ▸ head_cat_true HW.out)
        have HK4 := Lib.hid (HKz.out.trans hK4 (fun _ _ h => h))
        clear hK4
        go_wp2_with fail
        go_ret
        exact ⟨congrArg (fun x => Ending.returned (Value.string x)) HE.out, HK4.out⟩
      | false =>
        go_wp2_with fail
        refine (HRow.out).mono ?_
        rintro e w4 ⟨rfl, hK4⟩
        have HE := Lib.hid (HR.out ▸ head_cat_false HW.out)
        have HK4 := Lib.hid (HKz.out.trans hK4 (fun _ _ h => h))
        clear hK4
        go_wp2_with fail
        go_ret
        exact ⟨congrArg (fun x => Ending.returned (Value.string x)) HE.out, HK4.out⟩

end Go.Proofs.YtpfofknjlhaanaaGreatDoor

/-
  The parts of a file of a circuit that has a comment alone: its head, its lines, its symbols and its comment.
-/
namespace Go.Proofs.YtpfofknjlhaanaaGreatDoor
open Go.RowKit

def circN (cm : ByteArray) : Array Value := #[.int .i64 0, .slice none 0 0, .slice none 0 0, .slice none 0 0, .slice none 0 0, .slice none 0 0, .slice none 0 0, .slice none 0 0, .string cm]
def headN : Array Value := #[.bool false, .int .i64 0, .int .i64 0, .int .i64 0, .int .i64 0, .int .i64 0, .int .i64 0, .int .i64 0]

theorem two_new (w : World) (c d : Array Value) (t u : TypeId) : Blk ((w.alloc (.cells c t)).alloc (.cells d u)) (w.heap.size + 1) d u := by
  have := Blk.new (w.alloc (.cells c t)) d u
  rwa [World.size_alloc] at this

theorem isb_kp {T e : TypeId} {B b : Nat} {bs : List Value} {w w' : World} (h : Lib.IsBuilder T e B b bs w) (k : Kp (fun _ => False) w w') : Lib.IsBuilder T e B b bs w' := by
  have go : ∀ p, Lib.BuilderAt T e B b p bs w → Lib.BuilderAt T e B b p bs w' := by
    rintro p ⟨hB, v, hb, hown, hne⟩
    exact ⟨hB, v, (k.block b (Array.getElem?_eq_some_iff.1 hb).1 (fun h => h)).trans hb, Own.kp (cs := bs) hown k (fun _ _ h => h), hne⟩
  rcases h with h | h
  · exact .inl (go _ h)
  · exact .inr (go _ h)

set_option maxRecDepth 100000 in
theorem ascii_HeadOf0 (cm : ByteArray) (w : World) :
    Calls Tryz.prog 9 #[.agg (circN cm), .bool false] w fun e w' => e = .returned (.agg headN) ∧ Kp (fun _ => False) w w' := by
  have HK : Hid (∀ (c d : Array Value) (t u : TypeId), Kp (fun _ => False) w ((w.alloc (.cells c t)).alloc (.cells d u))) := Lib.hid (fun c d t u => ((Kp.refl _ w).alloc _).alloc _)
  unfold circN headN
  go_enter Tryz.func9, Tryz.ntmps9
  go_wp2_with fail
  have hB := two_new w #[.int .i64 0, .slice none 0 0, .slice none 0 0, .slice none 0 0, .slice none 0 0, .slice none 0 0, .slice none 0 0, .slice none 0 0, .string cm] #[.bool false, .int .i64 0, .int .i64 0, .int .i64 0, .int .i64 0, .int .i64 0, .int .i64 0, .int .i64 0] 29 41
  obtain ⟨z0, z1, z2, z3, z4, z5, z6, z7⟩ := hB.cells8
  exact bodyPost_ret (v := .agg #[.bool false, .int .i64 0, .int .i64 0, .int .i64 0, .int .i64 0, .int .i64 0, .int .i64 0, .int .i64 0]) (by simp [results, Tryz.results9, go_sem, z0, z1, z2, z3, z4, z5, z6, z7]) rfl ⟨rfl, HK.out _ _ _ _⟩

set_option maxRecDepth 100000 in
theorem ref13_HeadOf0 (cm : ByteArray) (w : World) :
    Calls Tryz.prog 16 #[.agg (circN cm), .bool false] w fun e w' => e = .returned (.agg headN) ∧ Kp (fun _ => False) w w' := by
  have HK : Hid (∀ (c d : Array Value) (t u : TypeId), Kp (fun _ => False) w ((w.alloc (.cells c t)).alloc (.cells d u))) := Lib.hid (fun c d t u => ((Kp.refl _ w).alloc _).alloc _)
  unfold circN headN
  go_enter Tryz.func16, Tryz.ntmps16
  go_wp2_with fail
  have hB := two_new w #[.int .i64 0, .slice none 0 0, .slice none 0 0, .slice none 0 0, .slice none 0 0, .slice none 0 0, .slice none 0 0, .slice none 0 0, .string cm] #[.bool false, .int .i64 0, .int .i64 0, .int .i64 0, .int .i64 0, .int .i64 0, .int .i64 0, .int .i64 0] 29 41
  obtain ⟨z0, z1, z2, z3, z4, z5, z6, z7⟩ := hB.cells8
  exact bodyPost_ret (v := .agg #[.bool false, .int .i64 0, .int .i64 0, .int .i64 0, .int .i64 0, .int .i64 0, .int .i64 0, .int .i64 0]) (by simp [results, Tryz.results16, go_sem, z0, z1, z2, z3, z4, z5, z6, z7]) rfl ⟨rfl, HK.out _ _ _ _⟩

set_option maxRecDepth 100000 in
set_option maxHeartbeats 4000000 in
theorem ascii_Write0 (cm : ByteArray) (w : World) :
    Calls Tryz.prog 11 #[.agg (circN cm)] w fun e w' => e = .returned (.string ⟨#[]⟩) ∧ Kp (fun _ => False) w w' := by
  obtain ⟨wz, hwz⟩ : ∃ wz : World, wz = (w.alloc (.cells #[.int .i64 0, .slice none 0 0, .slice none 0 0, .slice none 0 0, .slice none 0 0, .slice none 0 0, .slice none 0 0, .slice none 0 0, .string cm] 29)).alloc (.cells #[.pointer none, .slice none 0 0] 73) := ⟨_, rfl⟩
  have HKz : Hid (Kp (fun _ => False) w wz) := Lib.hid (by rw [hwz]; exact ((Kp.refl _ w).alloc _).alloc _)
  have HCz : Hid (Blk wz w.heap.size #[.int .i64 0, .slice none 0 0, .slice none 0 0, .slice none 0 0, .slice none 0 0, .slice none 0 0, .slice none 0 0, .slice none 0 0, .string cm] 29) := Lib.hid (by rw [hwz]; exact (Blk.new w _ _).alloc _)
  have HIz : Hid (Lib.IsBuilder 73 5 (w.heap.size + 1) (w.heap.size + 1) [] wz) := Lib.hid (by
    rw [hwz]
    have := Lib.fresh_isBuilder 73 5 (w.alloc (.cells #[.int .i64 0, .slice none 0 0, .slice none 0 0, .slice none 0 0, .slice none 0 0, .slice none 0 0, .slice none 0 0, .slice none 0 0, .string cm] 29))
    rwa [World.size_alloc] at this)
  have HFirst := Lib.hid hwz
  clear hwz
  unfold circN
  go_enter Tryz.func11, Tryz.ntmps11
  go_upto_region 2 with fail
  rw [show (w.alloc (.cells #[.int .i64 0, .slice none 0 0, .slice none 0 0, .slice none 0 0, .slice none 0 0, .slice none 0 0, .slice none 0 0, .slice none 0 0, .string cm] 29)).alloc (.cells #[.pointer none, .slice none 0 0] 73) = wz from HFirst.out.symm]
  clear HFirst
  obtain ⟨z0, z1, z2, z3, z4, z5, z6, z7, z8⟩ := HCz.out.cells9'
  have lz := HCz.out.lt
  go_wp2_with fail
  go_loopw [17] (fun v17 wr => v17 = .int .i64 0 ∧ wr = wz) (fun _ _ => 0)
  case atStart => exact ⟨rfl, rfl⟩
  case round =>
    obtain ⟨rfl, rfl⟩ := hrel
    obtain ⟨wp, rfl⟩ : ∃ wp : World, wp = wr := ⟨_, rfl⟩
    go_wp2_with fail
    go_loopw [29] (fun v29 wr => v29 = .int .i64 0 ∧ wr = wp) (fun _ _ => 0)
    case atStart => exact ⟨rfl, rfl⟩
    case round =>
      obtain ⟨rfl, rfl⟩ := hrel
      obtain ⟨wq, rfl⟩ : ∃ wq : World, wq = wr := ⟨_, rfl⟩
      go_upto_region 15 with fail
      have HR := Lib.hid (Blk.new wq #[.slice none 0 0, .slice none 0 0, .slice none 0 0] 24)
      obtain ⟨wl, hwl⟩ : ∃ wl : World, wl = wq.alloc (.cells #[.slice none 0 0, .slice none 0 0, .slice none 0 0] 24) := ⟨_, rfl⟩
      have HKl : Hid (Kp (fun _ => False) wq wl) := Lib.hid (by rw [hwl]; exact (Kp.refl _ _).alloc _)
      rw [show wq.alloc (.cells #[.slice none 0 0, .slice none 0 0, .slice none 0 0] 24) = wl from hwl.symm] at HR ⊢
      clear hwl
      obtain ⟨r0, r1, r2⟩ : wl.cell? ⟨wq.heap.size, 0, none⟩ = some (.slice none 0 0) ∧ wl.cell? ⟨wq.heap.size, 1, none⟩ = some (.slice none 0 0) ∧ wl.cell? ⟨wq.heap.size, 2, none⟩ = some (.slice none 0 0) := ⟨HR.out.cell rfl, HR.out.cell rfl, HR.out.cell rfl⟩
      have z6' : wl.cell? ⟨w.heap.size, 6, none⟩ = some (.slice none 0 0) := (HCz.out.kp HKl.out (fun h => h)).cell rfl
      clear z0 z1 z2 z3 z4 z5 z6 z7 z8
      go_wp2_with fail
      go_loopw [61] (fun v61 wr => ∃ i : Nat, v61 = .int .i64 i ∧ i ≤ 3 ∧ wr = wl) (fun v61 _ => 3 - (intOf v61).toNat)
      case atStart => exact ⟨0, rfl, by omega, rfl⟩
      case round =>
        obtain ⟨i, rfl, hi, rfl⟩ := hrel
        obtain ⟨wm, rfl⟩ : ∃ wm : World, wm = wr := ⟨_, rfl⟩
        by_cases hlt : i < 3
        · have hc : wm.cell? ⟨wq.heap.size, i, none⟩ = some (.slice none 0 0) := by
            match i, hlt with
            | 0, _ => exact r0
            | 1, _ => exact r1
            | 2, _ => exact r2
          have i0 : (0 : Int) ≤ (i : Int) := by omega
          have i1 : (i : Int) < 3 := by omega
          have i2 : decide ((i : Int) < 3) = true := decide_eq_true i1
          clear r0 r1 r2
          go_wp2_with fail
          go_loopw [67] (fun v67 wr => v67 = .int .i64 0 ∧ wr = wm) (fun _ _ => 0)
          case atStart => exact ⟨rfl, rfl⟩
          case round =>
            obtain ⟨rfl, rfl⟩ := hrel
            go_wp2_with fail
            go_roundw
            case rel => exact ⟨i + 1, by go_num, by omega, by first | rfl | trivial⟩
            case measure => simp [intOf]; omega
        · clear r0 r1 r2
          go_wp2_with fail
          go_loopw [80] (fun v80 wr => v80 = .int .i64 0 ∧ wr = wm) (fun _ _ => 0)
          case atStart => exact ⟨rfl, rfl⟩
          case round =>
            obtain ⟨rfl, rfl⟩ := hrel
            go_wp2_with fail
            refine (Tryz.Builder_String_any (w.heap.size + 1) (w.heap.size + 1) [] _ (isb_kp HIz.out HKl.out) (by have := HKl.out.size; omega)).mono ?_
            rintro e w6 ⟨rfl, hb6⟩
            have hend : Kp (fun _ => False) w w6 := (HKz.out.trans HKl.out (fun _ _ h => h)).trans (show Kp (fun j => w.heap.size + 1 ≤ j) _ w6 from ⟨hb6.os, hb6.tape, hb6.output, hb6.size, fun k _ hS => hb6.block k (by omega)⟩) (fun j hj h => by omega)
            go_wp2_with fail
            go_ret
            exact ⟨rfl, hend⟩

set_option maxRecDepth 100000 in
theorem tail_Good0 (h : Array Value) (w : World) (hh : h = headN) :
    Calls Tryz.prog 10 #[.agg h, .slice none 0 0] w fun e w' => e = .returned (.bool true) ∧ Kp (fun _ => False) w w' := by
  subst hh
  unfold headN
  have hmm := @run_makeMap Tryz.prog
  have HK : Hid (∀ (c : Array Value) (o : Obj) (t : TypeId), Kp (fun _ => False) w ((w.alloc (.cells c t)).alloc o)) := Lib.hid (fun c o t => ((Kp.refl _ w).alloc _).alloc _)
  go_enter Tryz.func10, Tryz.ntmps10
  go_wp2_with fail
  go_loopw [11] (fun v11 wr => v11 = .int .i64 0 ∧ Kp (fun _ => False) w wr) (fun _ _ => 0)
  case atStart => exact ⟨rfl, HK.out _ _ _⟩
  case round =>
    obtain ⟨rfl, hK⟩ := hrel
    clear hmm
    go_wp2_with fail
    go_ret
    exact ⟨rfl, hK⟩

set_option maxRecDepth 100000 in
theorem ref12_Good0 (w : World) :
    Calls Tryz.prog 17 #[.agg headN, .slice none 0 0] w fun e w' => e = .returned (.bool true) ∧ Kp (fun _ => False) w w' := by
  unfold headN
  have HK : Hid (∀ (c : Array Value) (t : TypeId), Kp (fun _ => False) w (w.alloc (.cells c t))) := Lib.hid (fun c t => (Kp.refl _ w).alloc _)
  go_enter Tryz.func17, Tryz.ntmps17
  go_wp2_with fail
  go_loopw [5] (fun v5 wr => v5 = .int .i64 0 ∧ Kp (fun _ => False) w wr) (fun _ _ => 0)
  case atStart => exact ⟨rfl, HK.out _ _⟩
  case round =>
    obtain ⟨rfl, hK⟩ := hrel
    go_wp2_with fail
    go_ret
    exact ⟨rfl, hK⟩

theorem ref13_one0 (w : World) : Calls Tryz.prog 48 #[.slice none 0 0] w fun e w' => e = .returned (.string ⟨#[]⟩) ∧ w' = w := by
  go_enter Tryz.func48, Tryz.ntmps48
  go_wp2_with fail
  go_loopw [3, 4] (fun v3 v4 wr => v4 = .int .i64 0 ∧ v3 = .string ⟨#[]⟩ ∧ wr = w) (fun _ _ _ => 0)
  case atStart => exact ⟨rfl, rfl, rfl⟩
  case round =>
    obtain ⟨rfl, rfl, rfl⟩ := hrel
    go_wp2_with fail
    go_ret
    exact ⟨rfl, rfl⟩

set_option maxRecDepth 100000 in
set_option maxHeartbeats 4000000 in
theorem ref13_Write0 (cm : ByteArray) (w : World) :
    Calls Tryz.prog 19 #[.agg (circN cm)] w fun e w' => e = .returned (.string ⟨#[]⟩) ∧ Kp (fun _ => False) w w' := by
  obtain ⟨wz, hwz⟩ : ∃ wz : World, wz = w.alloc (.cells #[.int .i64 0, .slice none 0 0, .slice none 0 0, .slice none 0 0, .slice none 0 0, .slice none 0 0, .slice none 0 0, .slice none 0 0, .string cm] 29) := ⟨_, rfl⟩
  have HKz : Hid (Kp (fun _ => False) w wz) := Lib.hid (by rw [hwz]; exact (Kp.refl _ w).alloc _)
  have HCz : Hid (Blk wz w.heap.size #[.int .i64 0, .slice none 0 0, .slice none 0 0, .slice none 0 0, .slice none 0 0, .slice none 0 0, .slice none 0 0, .slice none 0 0, .string cm] 29) := Lib.hid (by rw [hwz]; exact Blk.new w _ _)
  have HFirst := Lib.hid hwz
  clear hwz
  unfold circN
  go_enter Tryz.func19, Tryz.ntmps19
  go_upto_region 1 with fail
  rw [show w.alloc (.cells #[.int .i64 0, .slice none 0 0, .slice none 0 0, .slice none 0 0, .slice none 0 0, .slice none 0 0, .slice none 0 0, .slice none 0 0, .string cm] 29) = wz from HFirst.out.symm]
  clear HFirst
  obtain ⟨z0, z1, z2, z3, z4, z5, z6, z7, z8⟩ := HCz.out.cells9'
  go_wp2_with fail
  refine (ref13_one0 _).mono ?_
  rintro e w' ⟨rfl, hww⟩
  subst w'
  obtain ⟨wx, rfl⟩ : ∃ wx : World, wx = wz := ⟨_, rfl⟩
  go_wp2_with fail
  go_loopw [3, 4] (fun v3 v4 wr => v4 = .int .i64 0 ∧ v3 = .string ⟨#[]⟩ ∧ wr = wx) (fun _ _ _ => 0)
  case atStart => exact ⟨rfl, rfl, rfl⟩
  case round =>
    obtain ⟨rfl, rfl, rfl⟩ := hrel
    obtain ⟨wp, rfl⟩ : ∃ wp : World, wp = wr := ⟨_, rfl⟩
    go_wp2_with fail
    go_quiet ((go_at_call 48; exact Calls.quiet_of_same (ref13_one0 _)))
    all_goals go_wp2_with fail
    all_goals
      go_loopw [3, 6] (fun v3 v6 wr => v6 = .int .i64 0 ∧ v3 = .string ⟨#[]⟩ ∧ ∃ n, wr = wp.drewN n) (fun _ _ _ => 0)
      case atStart => exact ⟨rfl, rfl, _, rfl⟩
      case round =>
        obtain ⟨rfl, rfl, n, rfl⟩ := hrel
        go_wp2_with fail
        go_ret
        exact ⟨rfl, HKz.out.drewN _⟩

end Go.Proofs.YtpfofknjlhaanaaGreatDoor

/-
  What stands behind a circuit's lines where it has a comment alone.
-/
namespace Go.Proofs.YtpfofknjlhaanaaGreatDoor
open Go.RowKit

theorem toList_ne {s : ByteArray} (h : s.size ≠ 0) : ¬ s.toList = [] ∧ s.toList.isEmpty = false ∧ (!s.toList.isEmpty) = true := by
  have e : s.toList = s.data.toList := Lib.toList_data s
  have h1 : ¬ s.toList = [] := fun e2 => h (by rw [e] at e2; rw [Lib.size_eq, e2]; rfl)
  have h2 : s.toList.isEmpty = false := by cases hl : s.toList with
    | nil => exact absurd hl h1
    | cons a r => rfl
  exact ⟨h1, h2, by rw [h2]; rfl⟩

def markS : ByteArray := ⟨#[99, 10]⟩

set_option maxRecDepth 100000 in
set_option maxHeartbeats 4000000 in
theorem tail_Write0 (cm : ByteArray) (w : World) (h0 : cm.size ≠ 0) (h1 : cm.size ≤ 2000000) :
    Calls Tryz.prog 14 #[.slice none 0 0, .string cm] w fun e w' => e = .returned (.string (⟨#[99, 10]⟩ ++ cm)) ∧ Kp (fun _ => False) w w' := by
  obtain ⟨n1, n2, n3⟩ := toList_ne h0
  have hcat : ¬ 9223372036854775807 < 2 + cm.size := by omega
  have HI := Lib.hid (Lib.fresh_isBuilder 73 5 w)
  have HS := Lib.hid h1
  clear h0 h1
  go_enter Tryz.func14, Tryz.ntmps14
  go_wp2_with fail
  go_loopw [10] (fun v10 wr => v10 = .int .i64 0 ∧ wr = w.alloc (.cells #[.pointer none, .slice none 0 0] 73)) (fun _ _ => 0)
  case atStart => exact ⟨rfl, rfl⟩
  case round =>
    obtain ⟨rfl, rfl⟩ := hrel
    go_wp2_with fail
    refine (bld_stringK _ _ _ _ _ HI.out (by have := HS.out; rw [ByteArray.size_append]; show 0 + (2 + cm.size) ≤ 140737488355328; omega) (by simp)).mono ?_
    rintro e w5 ⟨rfl, hB5, hb5, -⟩
    have HB5 : Hid (Lib.IsBuilder 73 5 w.heap.size w.heap.size (Lib.byteCells ((⟨#[99, 10]⟩ : ByteArray) ++ cm).data.toList) w5) := .inr hB5
    have hbw5 : Below w.heap.size w w5 := ((Below.refl _ w).alloc (Nat.le_refl _) _).trans hb5
    have hsz5 := hbw5.size
    clear hB5 hb5
    go_wp2_with fail
    refine (Tryz.Builder_String_any _ _ _ _ HB5.out hsz5).mono ?_
    rintro e w6 ⟨rfl, hb6⟩
    have hend : Kp (fun _ => False) w w6 := Kp.of_below (hbw5.trans hb6) _
    go_wp2_with fail
    go_ret
    exact ⟨congrArg (fun x => Ending.returned (Value.string x)) (show (⟨((⟨#[99, 10]⟩ : ByteArray) ++ cm).data.toList.toArray⟩ : ByteArray) = _ by rw [Array.toArray_toList]), hend⟩

set_option maxRecDepth 100000 in
theorem ref12_Write0 (cm : ByteArray) (w : World) (h0 : cm.size ≠ 0) (h1 : cm.size ≤ 2000000) :
    Calls Tryz.prog 22 #[.slice none 0 0, .string cm] w fun e w' => e = .returned (.string (⟨#[99, 10]⟩ ++ cm)) ∧ w' = w := by
  obtain ⟨n1, n2, n3⟩ := toList_ne h0
  have hcat : ¬ 9223372036854775807 < 2 + cm.size := by omega
  clear h0 h1
  go_enter Tryz.func22, Tryz.ntmps22
  go_wp2_with fail
  go_loopw [5, 6] (fun v5 v6 wr => v6 = .int .i64 0 ∧ v5 = .string ⟨#[]⟩ ∧ wr = w) (fun _ _ _ => 0)
  case atStart => exact ⟨rfl, rfl, rfl⟩
  case round =>
    obtain ⟨rfl, rfl, rfl⟩ := hrel
    go_wp2_with fail
    go_ret
    exact ⟨rfl, rfl⟩

end Go.Proofs.YtpfofknjlhaanaaGreatDoor

/-
  The document's circ.Check of a circuit that has a comment alone.
-/
namespace Go.Proofs.YtpfofknjlhaanaaGreatDoor
open Go.RowKit

set_option maxRecDepth 100000 in
set_option maxHeartbeats 4000000 in
theorem ref11_Owned0 (cm : ByteArray) (w : World) :
    Calls Tryz.prog 42 #[.agg (circN cm)] w fun e w' => (∃ a c, e = .returned (.slice a 0 c)) ∧ Kp (fun _ => False) w w' := by
  obtain ⟨wz, hwz⟩ : ∃ wz : World, wz = (w.alloc (.cells #[.int .i64 0, .slice none 0 0, .slice none 0 0, .slice none 0 0, .slice none 0 0, .slice none 0 0, .slice none 0 0, .slice none 0 0, .string cm] 29)).alloc (.cells #[] 3) := ⟨_, rfl⟩
  have HKz : Hid (Kp (fun _ => False) w wz) := Lib.hid (by rw [hwz]; exact ((Kp.refl _ w).alloc _).alloc _)
  have HCz : Hid (Blk wz w.heap.size #[.int .i64 0, .slice none 0 0, .slice none 0 0, .slice none 0 0, .slice none 0 0, .slice none 0 0, .slice none 0 0, .slice none 0 0, .string cm] 29) := Lib.hid (by rw [hwz]; exact (Blk.new w _ _).alloc _)
  obtain ⟨vg, hvg⟩ : ∃ vg, vg = Value.slice (some ⟨w.heap.size + 1, 0, none⟩) 0 0 := ⟨_, rfl⟩
  have HOz : Hid (Own wz (w.heap.size + 1) 3 (.slice (some ⟨w.heap.size + 1, 0, none⟩) 0 0) []) := Lib.hid (by rw [hwz]; exact own_lit (cs := []) (two_new w _ _ _ _) (Nat.le_refl _) (Nat.zero_le _))
  obtain ⟨i0, hi, -, -, -⟩ := info_parts (show (Tryz.prog.info? 3).map (fun i => (i.zero, i.size, i.bytes)) = some (some (.int .i64 0), 1, 8) by kernel_rfl)
  have HI := Lib.hid hi
  have HFirst := Lib.hid hwz
  clear hwz hi hvg vg
  unfold circN
  go_enter Tryz.func42, Tryz.ntmps42
  go_wp2_with (at_builtin; rw [show (w.alloc (.cells #[.int .i64 0, .slice none 0 0, .slice none 0 0, .slice none 0 0, .slice none 0 0, .slice none 0 0, .slice none 0 0, .slice none 0 0, .string cm] 29)).alloc (.cells #[] 3) = wz from HFirst.out.symm]; refine wpList_append_own_none rfl _ _ 24 rfl _ 3 i0 1 Tryz.underlying24 HI.out _ 0 [] rfl HOz.out rfl ?_)
  obtain ⟨z0, z1, z2, z3, z4, z5, z6, z7, z8⟩ := HCz.out.cells9'
  go_wp2_with fail
  go_loopw [3, 4] (fun v3 v4 wr => v4 = .int .i64 0 ∧ v3 = .slice (some ⟨w.heap.size + 1, 0, none⟩) 0 0 ∧ wr = wz) (fun _ _ _ => 0)
  case atStart => exact ⟨rfl, rfl, rfl⟩
  case round =>
    obtain ⟨rfl, rfl, rfl⟩ := hrel
    obtain ⟨wp, rfl⟩ : ∃ wp : World, wp = wr := ⟨_, rfl⟩
    go_wp2_with fail
    go_loopw [3, 5] (fun v3 v5 wr => v5 = .int .i64 0 ∧ v3 = .slice (some ⟨w.heap.size + 1, 0, none⟩) 0 0 ∧ wr = wp) (fun _ _ _ => 0)
    case atStart => exact ⟨rfl, rfl, rfl⟩
    case round =>
      obtain ⟨rfl, rfl, rfl⟩ := hrel
      go_wp2_with fail
      go_ret
      exact ⟨⟨_, _, rfl⟩, HKz.out⟩

set_option maxRecDepth 100000 in
set_option maxHeartbeats 4000000 in
theorem ref11_Used0 (cm : ByteArray) (w : World) :
    Calls Tryz.prog 43 #[.agg (circN cm)] w fun e w' => (∃ a c, e = .returned (.slice a 0 c)) ∧ Kp (fun _ => False) w w' := by
  obtain ⟨wz, hwz⟩ : ∃ wz : World, wz = (w.alloc (.cells #[.int .i64 0, .slice none 0 0, .slice none 0 0, .slice none 0 0, .slice none 0 0, .slice none 0 0, .slice none 0 0, .slice none 0 0, .string cm] 29)).alloc (.cells #[] 3) := ⟨_, rfl⟩
  have HKz : Hid (Kp (fun _ => False) w wz) := Lib.hid (by rw [hwz]; exact ((Kp.refl _ w).alloc _).alloc _)
  have HCz : Hid (Blk wz w.heap.size #[.int .i64 0, .slice none 0 0, .slice none 0 0, .slice none 0 0, .slice none 0 0, .slice none 0 0, .slice none 0 0, .slice none 0 0, .string cm] 29) := Lib.hid (by rw [hwz]; exact (Blk.new w _ _).alloc _)
  obtain ⟨vg, hvg⟩ : ∃ vg, vg = Value.slice (some ⟨w.heap.size + 1, 0, none⟩) 0 0 := ⟨_, rfl⟩
  have HOz : Hid (Own wz (w.heap.size + 1) 3 (.slice (some ⟨w.heap.size + 1, 0, none⟩) 0 0) []) := Lib.hid (by rw [hwz]; exact own_lit (cs := []) (two_new w _ _ _ _) (Nat.le_refl _) (Nat.zero_le _))
  obtain ⟨i0, hi, -, -, -⟩ := info_parts (show (Tryz.prog.info? 3).map (fun i => (i.zero, i.size, i.bytes)) = some (some (.int .i64 0), 1, 8) by kernel_rfl)
  have HI := Lib.hid hi
  have HFirst := Lib.hid hwz
  clear hwz hi hvg vg
  unfold circN
  go_enter Tryz.func43, Tryz.ntmps43
  obtain ⟨z0, z1, z2, z3, z4, z5, z6, z7, z8⟩ := HCz.out.cells9'
  go_wp2_with (at_builtin; (try rw [show (w.alloc (.cells #[.int .i64 0, .slice none 0 0, .slice none 0 0, .slice none 0 0, .slice none 0 0, .slice none 0 0, .slice none 0 0, .slice none 0 0, .string cm] 29)).alloc (.cells #[] 3) = wz from HFirst.out.symm]); refine wpList_append_own_none rfl _ _ 24 rfl _ 3 i0 1 Tryz.underlying24 HI.out _ 0 [] rfl HOz.out rfl ?_)
  go_loopw [3, 4] (fun v3 v4 wr => v4 = .int .i64 0 ∧ v3 = .slice (some ⟨w.heap.size + 1, 0, none⟩) 0 0 ∧ wr = wz) (fun _ _ _ => 0)
  case atStart => exact ⟨rfl, rfl, rfl⟩
  case round =>
    obtain ⟨rfl, rfl, rfl⟩ := hrel
    obtain ⟨wp, rfl⟩ : ∃ wp : World, wp = wr := ⟨_, rfl⟩
    go_wp2_with fail
    go_loopw [3, 5] (fun v3 v5 wr => v5 = .int .i64 0 ∧ v3 = .slice (some ⟨w.heap.size + 1, 0, none⟩) 0 0 ∧ wr = wp) (fun _ _ _ => 0)
    case atStart => exact ⟨rfl, rfl, rfl⟩
    case round =>
      obtain ⟨rfl, rfl, rfl⟩ := hrel
      go_wp2_with fail
      go_ret
      exact ⟨⟨_, _, rfl⟩, HKz.out⟩

set_option maxRecDepth 100000 in
set_option maxHeartbeats 4000000 in
theorem ref11_Order0 (cm : ByteArray) (w : World) :
    Calls Tryz.prog 45 #[.agg (circN cm)] w fun e w' => (∃ a c, e = .returned (.slice a 0 c)) ∧ Kp (fun _ => False) w w' := by
  obtain ⟨i0, hi, hz0, hz1, hz2⟩ := info_parts (show (Tryz.prog.info? 4).map (fun i => (i.zero, i.size, i.bytes)) = some (some (.bool false), 1, 1) by kernel_rfl)
  have hmk : ∀ u : World, (Instr.makeSlice 117 (.int .i64 0) (.int .i64 0)).run Tryz.prog u =
      .ok (.slice (some ⟨u.heap.size, 0, none⟩) 0 0) (u.alloc (.cells (madeCells #[.bool false] 0) 4)) := fun u => by
    have h := run_make (P := Tryz.prog) u 117 4 i0 (.bool false) Tryz.underlying117 hi hz0 .i64 .i64 0 0 (by omega) (Int.le_refl _) (by rw [hz2]; omega) (by omega)
    simpa [hz1, Value.cells] using h
  clear hi hz0 hz1 hz2 i0
  obtain ⟨wz, hwz⟩ : ∃ wz : World, wz = w.alloc (.cells #[.int .i64 0, .slice none 0 0, .slice none 0 0, .slice none 0 0, .slice none 0 0, .slice none 0 0, .slice none 0 0, .slice none 0 0, .string cm] 29) := ⟨_, rfl⟩
  have HKz : Hid (Kp (fun _ => False) w wz) := Lib.hid (by rw [hwz]; exact (Kp.refl _ w).alloc _)
  have HCz : Hid (Blk wz w.heap.size #[.int .i64 0, .slice none 0 0, .slice none 0 0, .slice none 0 0, .slice none 0 0, .slice none 0 0, .slice none 0 0, .slice none 0 0, .string cm] 29) := Lib.hid (by rw [hwz]; exact Blk.new w _ _)
  have HFirst := Lib.hid hwz
  clear hwz
  unfold circN
  go_enter Tryz.func45, Tryz.ntmps45
  go_upto_region 1 with fail
  rw [show w.alloc (.cells #[.int .i64 0, .slice none 0 0, .slice none 0 0, .slice none 0 0, .slice none 0 0, .slice none 0 0, .slice none 0 0, .slice none 0 0, .string cm] 29) = wz from HFirst.out.symm]
  clear HFirst
  have z6 := HCz.out.cell (i := 6) (v := .slice none 0 0) rfl
  go_cut [3, 4] from 7 to 11 (fun s3 s4 wx => (∃ a c, s3 = .slice a 0 c) ∧ Blk wx w.heap.size #[.int .i64 0, .slice none 0 0, .slice none 0 0, .slice none 0 0, .slice none 0 0, .slice none 0 0, .slice none 0 0, .slice none 0 0, .string cm] 29 ∧ Kp (fun _ => False) w wx)
  case first =>
    go_region_held3 (fun u => u.cell? ⟨w.heap.size, 6, none⟩ = some (.slice none 0 0)) (first | exact HCz.out.cell rfl | exact HCz.out.drew.cell rfl | exact ((HCz.out).alloc _).cell rfl | exact ((HCz.out).alloc _).drew.cell rfl | exact (((HCz.out).alloc _).alloc _).cell rfl | exact (((HCz.out).alloc _).alloc _).drew.cell rfl) (fail)
    all_goals go_wp2_with fail
    all_goals go_meet
    all_goals exact ⟨⟨_, _, rfl⟩, (((HCz.out).alloc _).alloc _).drew, (((HKz.out).alloc _).alloc _).drew⟩
  case rest =>
  obtain ⟨⟨a3, c3, rfl⟩, hB, hK⟩ := hcut
  clear z6 hmk HCz HKz
  have HB := Lib.hid hB
  have HK := Lib.hid hK
  clear hB hK
  obtain ⟨wa, rfl⟩ : ∃ wa : World, wa = wc := ⟨_, rfl⟩
  have z6 := HB.out.cell (i := 6) (v := .slice none 0 0) rfl
  go_wp2_with fail
  go_loopw [3] (fun v3 wr => v3 = .slice a3 0 c3 ∧ wr = wa) (fun _ _ => 0)
  case atStart => exact ⟨rfl, rfl⟩
  case round =>
    obtain ⟨rfl, rfl⟩ := hrel
    obtain ⟨wp, rfl⟩ : ∃ wp : World, wp = wr := ⟨_, rfl⟩
    go_wp2_with fail
    go_loopw [5, 6] (fun v5 v6 wr => v6 = .int .i64 0 ∧ v5 = .int .i64 (-1) ∧ wr = wp) (fun _ _ _ => 0)
    case atStart => exact ⟨rfl, rfl, rfl⟩
    case round =>
      obtain ⟨rfl, rfl, rfl⟩ := hrel
      go_wp2_with fail
      go_ret
      exact ⟨⟨_, _, rfl⟩, HK.out⟩

set_option maxRecDepth 100000 in
set_option maxHeartbeats 4000000 in
theorem ref11_Check0 (cm : ByteArray) (w : World) :
    Calls Tryz.prog 15 #[.agg (circN cm)] w fun e w' => e = .returned (.int .i64 0) ∧ Kp (fun _ => False) w w' := by
  have HOw := Lib.hid (fun u => ref11_Owned0 cm u)
  have HUs := Lib.hid (fun u => ref11_Used0 cm u)
  have HOr := Lib.hid (fun u => ref11_Order0 cm u)
  obtain ⟨wz, hwz⟩ : ∃ wz : World, wz = w.alloc (.cells #[.int .i64 0, .slice none 0 0, .slice none 0 0, .slice none 0 0, .slice none 0 0, .slice none 0 0, .slice none 0 0, .slice none 0 0, .string cm] 29) := ⟨_, rfl⟩
  have HKz : Hid (Kp (fun _ => False) w wz) := Lib.hid (by rw [hwz]; exact (Kp.refl _ w).alloc _)
  have HX : Hid (Blk wz w.heap.size #[.int .i64 0, .slice none 0 0, .slice none 0 0, .slice none 0 0, .slice none 0 0, .slice none 0 0, .slice none 0 0, .slice none 0 0, .string cm] 29) := Lib.hid (by rw [hwz]; exact Blk.new w _ _)
  have HFirst := Lib.hid hwz
  clear hwz
  unfold circN at *
  go_enter Tryz.func15, Tryz.ntmps15
  go_upto_region 3 with fail
  rw [show w.alloc (.cells #[.int .i64 0, .slice none 0 0, .slice none 0 0, .slice none 0 0, .slice none 0 0, .slice none 0 0, .slice none 0 0, .slice none 0 0, .string cm] 29) = wz from HFirst.out.symm]
  clear HFirst
  go_cut [3, 4] from 19 to 22 (fun s3 s4 wx => (∃ a c, s3 = .slice a 0 c) ∧ (∃ a c, s4 = .slice a 0 c) ∧ Blk wx w.heap.size #[.int .i64 0, .slice none 0 0, .slice none 0 0, .slice none 0 0, .slice none 0 0, .slice none 0 0, .slice none 0 0, .slice none 0 0, .string cm] 29 ∧ Kp (fun _ => False) w wx)
  case first =>
    go_region_held3 (fun u => u.cell? ⟨w.heap.size, 0, none⟩ = some (.int .i64 0) ∧ u.cell? ⟨w.heap.size, 1, none⟩ = some (.slice none 0 0) ∧ u.cell? ⟨w.heap.size, 2, none⟩ = some (.slice none 0 0) ∧ u.cell? ⟨w.heap.size, 3, none⟩ = some (.slice none 0 0) ∧ u.cell? ⟨w.heap.size, 4, none⟩ = some (.slice none 0 0) ∧ u.cell? ⟨w.heap.size, 5, none⟩ = some (.slice none 0 0) ∧ u.cell? ⟨w.heap.size, 6, none⟩ = some (.slice none 0 0) ∧ u.cell? ⟨w.heap.size, 7, none⟩ = some (.slice none 0 0) ∧ u.cell? ⟨w.heap.size, 8, none⟩ = some (.string cm)) (with_reducible first | exact HX.out.cells9' | exact HX.out.drew.cells9' | exact HXa.out.cells9' | exact HXa.out.drew.cells9' | exact HXb.out.cells9' | exact HXb.out.drew.cells9') ((first
      | ((with_reducible refine Calls.mono (HOw.out _) ?_)
         rintro o u1 ⟨⟨a1, c1, rfl⟩, hK1⟩
         have HXa := Lib.hid (by with_reducible first | exact HX.out.kp hK1 (fun h => h) | exact HX.out.drew.kp hK1 (fun h => h) | exact HXb.out.kp hK1 (fun h => h) | exact HXb.out.drew.kp hK1 (fun h => h))
         have HKa := Lib.hid (by with_reducible first | exact HKz.out.trans hK1 (fun _ _ h => h) | exact HKz.out.drew.trans hK1 (fun _ _ h => h) | exact HKb.out.trans hK1 (fun _ _ h => h) | exact HKb.out.drew.trans hK1 (fun _ _ h => h))
         clear hK1)
      | ((with_reducible refine Calls.mono (HUs.out _) ?_)
         rintro o u2 ⟨⟨a2, c2, rfl⟩, hK2⟩
         have HXb := Lib.hid (by with_reducible first | exact HX.out.kp hK2 (fun h => h) | exact HX.out.drew.kp hK2 (fun h => h) | exact HXa.out.kp hK2 (fun h => h) | exact HXa.out.drew.kp hK2 (fun h => h))
         have HKb := Lib.hid (by with_reducible first | exact HKz.out.trans hK2 (fun _ _ h => h) | exact HKz.out.drew.trans hK2 (fun _ _ h => h) | exact HKa.out.trans hK2 (fun _ _ h => h) | exact HKa.out.drew.trans hK2 (fun _ _ h => h))
         clear hK2)))
    all_goals go_wp2_with fail
    all_goals go_meet
    all_goals first
      | exact ⟨⟨_, _, rfl⟩, ⟨_, _, rfl⟩, HXa.out, HKa.out⟩
      | exact ⟨⟨_, _, rfl⟩, ⟨_, _, rfl⟩, HXb.out, HKb.out⟩
      | exact ⟨⟨_, _, rfl⟩, ⟨_, _, rfl⟩, HXa.out.drew, HKa.out.drew⟩
      | exact ⟨⟨_, _, rfl⟩, ⟨_, _, rfl⟩, HXb.out.drew, HKb.out.drew⟩
  case rest =>
  obtain ⟨⟨a3, c3, rfl⟩, ⟨a4, c4, rfl⟩, hB, hK⟩ := hcut
  clear HX HKz HOw HUs
  have HX := Lib.hid hB
  have HKz := Lib.hid hK
  clear hB hK
  obtain ⟨wa, rfl⟩ : ∃ wa : World, wa = wc := ⟨_, rfl⟩
  have z2 := HX.out.cell (i := 2) (v := .slice none 0 0) rfl
  go_wp2_with fail
  go_loopw [5] (fun v5 wr => v5 = .int .i64 0 ∧ wr = wa) (fun _ _ => 0)
  case atStart => exact ⟨rfl, rfl⟩
  case round =>
    obtain ⟨rfl, rfl⟩ := hrel
    obtain ⟨wq0, rfl⟩ : ∃ wq : World, wq = wr := ⟨_, rfl⟩
    go_wp2_with fail
    go_loopw [6] (fun v6 wr => v6 = .int .i64 0 ∧ wr = wq0) (fun _ _ => 0)
    case atStart => exact ⟨rfl, rfl⟩
    case round =>
      obtain ⟨rfl, rfl⟩ := hrel
      obtain ⟨wq1, rfl⟩ : ∃ wq : World, wq = wr := ⟨_, rfl⟩
      go_wp2_with fail
      go_loopw [7] (fun v7 wr => v7 = .int .i64 0 ∧ wr = wq1) (fun _ _ => 0)
      case atStart => exact ⟨rfl, rfl⟩
      case round =>
        obtain ⟨rfl, rfl⟩ := hrel
        obtain ⟨wq2, rfl⟩ : ∃ wq : World, wq = wr := ⟨_, rfl⟩
        go_wp2_with fail
        go_loopw [9] (fun v9 wr => v9 = .int .i64 0 ∧ wr = wq2) (fun _ _ => 0)
        case atStart => exact ⟨rfl, rfl⟩
        case round =>
          obtain ⟨rfl, rfl⟩ := hrel
          obtain ⟨wq3, rfl⟩ : ∃ wq : World, wq = wr := ⟨_, rfl⟩
          go_wp2_with fail
          go_loopw [10] (fun v10 wr => v10 = .int .i64 0 ∧ wr = wq3) (fun _ _ => 0)
          case atStart => exact ⟨rfl, rfl⟩
          case round =>
            obtain ⟨rfl, rfl⟩ := hrel
            obtain ⟨wq4, rfl⟩ : ∃ wq : World, wq = wr := ⟨_, rfl⟩
            clear z2
            go_upto_region 30 with fail
            go_region_held3 (fun u => u.cell? ⟨w.heap.size, 0, none⟩ = some (.int .i64 0) ∧ u.cell? ⟨w.heap.size, 1, none⟩ = some (.slice none 0 0) ∧ u.cell? ⟨w.heap.size, 2, none⟩ = some (.slice none 0 0) ∧ u.cell? ⟨w.heap.size, 3, none⟩ = some (.slice none 0 0) ∧ u.cell? ⟨w.heap.size, 4, none⟩ = some (.slice none 0 0) ∧ u.cell? ⟨w.heap.size, 5, none⟩ = some (.slice none 0 0) ∧ u.cell? ⟨w.heap.size, 6, none⟩ = some (.slice none 0 0) ∧ u.cell? ⟨w.heap.size, 7, none⟩ = some (.slice none 0 0) ∧ u.cell? ⟨w.heap.size, 8, none⟩ = some (.string cm)) (with_reducible first | exact HX.out.cells9' | exact HX.out.drew.cells9' | exact HXa.out.cells9' | exact HXa.out.drew.cells9') ((first
              | ((with_reducible refine Calls.mono (HOr.out _) ?_)
                 rintro o u1 ⟨⟨a1, c1, rfl⟩, hK1⟩
                 have HXa := Lib.hid (by with_reducible first | exact HX.out.kp hK1 (fun h => h) | exact HX.out.drew.kp hK1 (fun h => h))
                 have HKa := Lib.hid (by with_reducible first | exact HKz.out.trans hK1 (fun _ _ h => h) | exact HKz.out.drew.trans hK1 (fun _ _ h => h))
                 clear hK1)))
            all_goals go_wp2_with fail
            all_goals go_ret
            all_goals exact ⟨rfl, by first | exact HKa.out | exact HKa.out.drew⟩

end Go.Proofs.YtpfofknjlhaanaaGreatDoor

/-
  A heap of nothing.
-/
namespace Go.Proofs.YtpfofknjlhaanaaGreatDoor
open Go.RowKit

theorem three_drew (w : World) (c0 c1 c2 : Array Value) (t0 t1 t2 : TypeId) :
    Blk (((w.alloc (.cells c0 t0)).alloc (.cells c1 t1)).alloc (.cells c2 t2)).drew (w.heap.size + 1 + 1) c2 t2 := by
  have := (Blk.new ((w.alloc (.cells c0 t0)).alloc (.cells c1 t1)) c2 t2).drew
  simpa using this

set_option maxHeartbeats 1000000 in
theorem heap_New0 (w : World) :
    Calls Tryz.prog 63 #[.int .i64 0] w fun e w' => ∃ h x y, e = .returned (.pointer (some ⟨h, 0, none⟩)) ∧ Blk w' h #[x, .slice none 0 0, y] 137 ∧ Kp (fun _ => False) w w' := by
  obtain ⟨i0, hi, hz0, hz1, hz2⟩ := info_parts (show (Tryz.prog.info? 3).map (fun i => (i.zero, i.size, i.bytes)) = some (some (.int .i64 0), 1, 8) by kernel_rfl)
  have hmk : ∀ u : World, (Instr.makeSlice 24 (.int .i64 0) (.int .i64 0)).run Tryz.prog u =
      .ok (.slice (some ⟨u.heap.size, 0, none⟩) 0 0) (u.alloc (.cells (madeCells #[.int .i64 0] 0) 3)) := fun u => by
    have h := run_make (P := Tryz.prog) u 24 3 i0 (.int .i64 0) Tryz.underlying24 hi hz0 .i64 .i64 0 0 (by omega) (Int.le_refl _) (by rw [hz2]; omega) (by omega)
    simpa [hz1, Value.cells] using h
  clear hi hz0 hz1 hz2 i0
  obtain ⟨i0, hi, hz0, hz1, hz2⟩ := info_parts (show (Tryz.prog.info? 151).map (fun i => (i.zero, i.size, i.bytes)) = some (some (.float .f64 0), 1, 8) by kernel_rfl)
  have hmf : ∀ u : World, (Instr.makeSlice 135 (.int .i64 0) (.int .i64 0)).run Tryz.prog u =
      .ok (.slice (some ⟨u.heap.size, 0, none⟩) 0 0) (u.alloc (.cells (madeCells #[.float .f64 0] 0) 151)) := fun u => by
    have h := run_make (P := Tryz.prog) u 135 151 i0 (.float .f64 0) Tryz.underlying135 hi hz0 .i64 .i64 0 0 (by omega) (Int.le_refl _) (by rw [hz2]; omega) (by omega)
    simpa [hz1, Value.cells] using h
  clear hi hz0 hz1 hz2 i0
  go_enter Tryz.func63, Tryz.ntmps63
  go_wp2
  go_region
  all_goals go_wp2
  all_goals
    go_loopw [22] (fun v22 wr => v22 = .int .i64 0 ∧ (∃ x y, Blk wr (w.heap.size + 1 + 1) #[x, .slice none 0 0, y] 137 ∧ ∃ g c, y = .slice g 0 c) ∧ Kp (fun _ => False) w wr) (fun _ _ => 0)
    case atStart => exact ⟨rfl, ⟨_, _, three_drew _ _ _ _ _ _ _, _, _, rfl⟩, ((((Kp.refl _ w).alloc _).alloc _).alloc _).drew⟩
    case round =>
      obtain ⟨rfl, ⟨x, y, hB, g, c, rfl⟩, hK⟩ := hrel
      go_wp2
      go_ret
      exact ⟨_, _, _, rfl, hB, hK⟩

theorem heap_Len0 (h : Nat) (x y : Value) (w : World) (hB : Blk w h #[x, .slice none 0 0, y] 137) :
    Calls Tryz.prog 83 #[.pointer (some ⟨h, 0, none⟩)] w fun e w' => e = .returned (.int .i64 0) ∧ w = w' := by
  have c2 : w.cell? ⟨h, 1, none⟩ = some (.slice none 0 0) := hB.cell (i := 1) rfl
  go_enter Tryz.func83, Tryz.ntmps83
  go_wp2
  go_ret
  exact ⟨rfl, rfl⟩

theorem heap_Pop0 (h : Nat) (x y : Value) (w : World) (hB : Blk w h #[x, .slice none 0 0, y] 137) :
    Calls Tryz.prog 65 #[.pointer (some ⟨h, 0, none⟩)] w fun e w' => e = .returned (.tuple #[.int .i64 0, .bool false]) ∧ w = w' := by
  go_enter Tryz.func65, Tryz.ntmps65
  go_wp2_with fail
  refine (heap_Len0 h x y _ hB).mono ?_
  rintro e w' ⟨rfl, rfl⟩
  go_wp2_with fail
  go_ret2
  exact ⟨rfl, rfl⟩

end Go.Proofs.YtpfofknjlhaanaaGreatDoor

/-
  circ.Order and circ.Check of a circuit of no inputs, latches and gates whose properties are the literal 1.
-/
namespace Go.Proofs.YtpfofknjlhaanaaGreatDoor
open Go.RowKit

set_option maxRecDepth 100000 in
set_option maxHeartbeats 4000000 in
theorem circ_Order0 (B : Value) (cm : ByteArray) (w : World) :
    Calls Tryz.prog 31 #[.agg (circE B cm)] w fun e w' => e = .returned (.slice none 0 0) ∧ Kp (fun _ => False) w w' := by
  obtain ⟨i0, hi, hz0, hz1, hz2⟩ := info_parts (show (Tryz.prog.info? 3).map (fun i => (i.zero, i.size, i.bytes)) = some (some (.int .i64 0), 1, 8) by kernel_rfl)
  have hmk : ∀ u : World, (Instr.makeSlice 24 (.int .i64 0) (.int .i64 0)).run Tryz.prog u =
      .ok (.slice (some ⟨u.heap.size, 0, none⟩) 0 0) (u.alloc (.cells (madeCells #[.int .i64 0] 0) 3)) := fun u => by
    have h := run_make (P := Tryz.prog) u 24 3 i0 (.int .i64 0) Tryz.underlying24 hi hz0 .i64 .i64 0 0 (by omega) (Int.le_refl _) (by rw [hz2]; omega) (by omega)
    simpa [hz1, Value.cells] using h
  clear hi hz0 hz1 hz2 i0
  obtain ⟨i0, hi, hz0, hz1, hz2⟩ := info_parts (show (Tryz.prog.info? 24).map (fun i => (i.zero, i.size, i.bytes)) = some (some (.slice none 0 0), 1, 24) by kernel_rfl)
  have hms : ∀ u : World, (Instr.makeSlice 79 (.int .i64 0) (.int .i64 0)).run Tryz.prog u =
      .ok (.slice (some ⟨u.heap.size, 0, none⟩) 0 0) (u.alloc (.cells (madeCells #[.slice none 0 0] 0) 24)) := fun u => by
    have h := run_make (P := Tryz.prog) u 79 24 i0 (.slice none 0 0) Tryz.underlying79 hi hz0 .i64 .i64 0 0 (by omega) (Int.le_refl _) (by rw [hz2]; omega) (by omega)
    simpa [hz1, Value.cells] using h
  clear hi hz0 hz1 hz2 i0
  have hmm := @run_makeMap Tryz.prog
  obtain ⟨wz, hwz⟩ : ∃ wz : World, wz = (w.alloc (.cells #[.int .i64 0, .slice none 0 0, .slice none 0 0, .slice none 0 0, B, .slice none 0 0, .slice none 0 0, .slice none 0 0, .string cm] 29)).alloc (.map #[] 0) := ⟨_, rfl⟩
  have HKz : Hid (Kp (fun _ => False) w wz) := Lib.hid (by rw [hwz]; exact ((Kp.refl _ w).alloc _).alloc _)
  have HCz : Hid (Blk wz w.heap.size #[.int .i64 0, .slice none 0 0, .slice none 0 0, .slice none 0 0, B, .slice none 0 0, .slice none 0 0, .slice none 0 0, .string cm] 29) := Lib.hid (by rw [hwz]; exact (Blk.new w _ _).alloc _)
  have HFirst := Lib.hid hwz
  clear hwz
  unfold circE
  go_enter Tryz.func31, Tryz.ntmps31
  go_upto_region 2 with fail
  rw [show (w.alloc (.cells #[.int .i64 0, .slice none 0 0, .slice none 0 0, .slice none 0 0, B, .slice none 0 0, .slice none 0 0, .slice none 0 0, .string cm] 29)).alloc (.map #[] 0) = wz from HFirst.out.symm]
  clear HFirst
  have z6 := HCz.out.cell (i := 6) (v := .slice none 0 0) rfl
  go_wp2_with fail
  go_loopw [24] (fun v24 wr => v24 = .int .i64 0 ∧ wr = wz) (fun _ _ => 0)
  case atStart => exact ⟨rfl, rfl⟩
  case round =>
    obtain ⟨rfl, rfl⟩ := hrel
    go_upto_region 7 with fail
    go_cut [6, 7] from 35 to 42 (fun s6 s7 wx => Blk wx w.heap.size #[.int .i64 0, .slice none 0 0, .slice none 0 0, .slice none 0 0, B, .slice none 0 0, .slice none 0 0, .slice none 0 0, .string cm] 29 ∧ Kp (fun _ => False) w wx)
    case first =>
      clear hmm
      go_region_held3 (fun u => u.cell? ⟨w.heap.size, 6, none⟩ = some (.slice none 0 0)) (first | exact HCz.out.cell rfl | exact HCz.out.drew.cell rfl | exact ((HCz.out).alloc _).cell rfl | exact ((HCz.out).alloc _).drew.cell rfl | exact (((HCz.out).alloc _).alloc _).cell rfl | exact (((HCz.out).alloc _).alloc _).drew.cell rfl) (fail)
      all_goals go_wp2_with fail
      all_goals go_meet
      all_goals exact ⟨(((HCz.out).alloc _).alloc _).drew, (((HKz.out).alloc _).alloc _).drew⟩
    case rest =>
    obtain ⟨hB, hK⟩ := hcut
    clear z6 HCz HKz hmk hms hmm
    have HB := Lib.hid hB
    have HK := Lib.hid hK
    clear hB hK
    obtain ⟨wa, rfl⟩ : ∃ wa : World, wa = wc := ⟨_, rfl⟩
    have z6 := HB.out.cell (i := 6) (v := .slice none 0 0) rfl
    go_wp2_with fail
    refine (heap_New0 _).mono ?_
    rintro e w2 ⟨h, x, y, rfl, hB2, hK2⟩
    have HB2 := Lib.hid hB2
    have HK2 := Lib.hid (HK.out.trans hK2 (fun _ _ h => h))
    have z6' := (HB.out.kp hK2 (fun h => h)).cell (i := 6) (v := .slice none 0 0) rfl
    clear hB2 hK2 z6
    go_wp2_with fail
    go_loopw [50] (fun v50 wr => v50 = .int .i64 0 ∧ wr = w2) (fun _ _ => 0)
    case atStart => exact ⟨rfl, rfl⟩
    case round =>
      obtain ⟨rfl, rfl⟩ := hrel
      clear z6'
      go_wp2_with fail
      refine (heap_Pop0 h x y _ HB2.out).mono ?_
      rintro e w' ⟨rfl, rfl⟩
      obtain ⟨wb, rfl⟩ : ∃ wb : World, wb = wr := ⟨_, rfl⟩
      go_wp2_with fail
      go_loopw [15, 17] (fun v15 v17 wr => v15 = .slice none 0 0 ∧ v17 = .bool false ∧ wr = wb) (fun _ _ _ => 0)
      case atStart => exact ⟨rfl, rfl, rfl⟩
      case round =>
        obtain ⟨rfl, rfl, rfl⟩ := hrel
        go_wp2_with fail
        go_ret
        exact ⟨rfl, HK2.out⟩

end Go.Proofs.YtpfofknjlhaanaaGreatDoor

/-
  circ.Check of a circuit of no inputs, latches and gates whose properties are the literal 1.
-/
namespace Go.Proofs.YtpfofknjlhaanaaGreatDoor
open Go.RowKit

set_option maxRecDepth 100000 in
set_option maxHeartbeats 4000000 in
theorem circ_Check (a : Option Addr) (n c : Nat) (L : List Int) (cm : ByteArray) (w : World) (hr : IntsAt w a L) (hn : L.length = n) (hn1 : n ≤ 1) (h1 : ∀ j, j < n → gi L j = 1) (ha : ∀ x, a = some x → x.block < w.heap.size) :
    Calls Tryz.prog 8 #[.agg (circE (.slice a n c) cm)] w fun e w' => e = .returned (.int .i64 0) ∧ Kp (fun _ => False) w w' := by
  have hmf : ∀ (fn : Fn) (first cap : Array Value) (w : World), (Instr.makeFunc fn first cap).run Tryz.prog w = .ok (.func fn first cap) w := fun _ _ _ _ => rfl
  have HD := Lib.hid (fun u => circ_defined (.slice a n c) cm u)
  have HO := Lib.hid (fun u => circ_Order0 (.slice a n c) cm u)
  have HA := Lib.hid (And.intro hr (And.intro hn (And.intro hn1 (And.intro h1 ha))))
  have HB0 := Lib.hid (Blk.new w #[.int .i64 0, .slice none 0 0, .slice none 0 0, .slice none 0 0, .slice a n c, .slice none 0 0, .slice none 0 0, .slice none 0 0, .string cm] 29)
  clear hr hn hn1 h1 ha
  unfold circE at *
  go_enter Tryz.func8, Tryz.ntmps8
  go_wp2_with fail
  refine (HD.out _).mono ?_
  rintro e w1 ⟨rfl, hK1⟩
  have HB1 := Lib.hid (HB0.out.kp hK1 (fun h => h))
  have HK1 := Lib.hid (((Kp.refl (fun _ => False) w).alloc _).trans hK1 (fun _ _ h => h))
  have hs1 := HB1.out.lt
  clear hK1 HB0
  go_upto_region 4 with fail
  obtain ⟨bo, hbo⟩ : ∃ bo, bo = w1.heap.size := ⟨_, rfl⟩
  obtain ⟨wo, hwo⟩ : ∃ wo : World, wo = w1.alloc (.cells #[.bool true] 4) := ⟨_, rfl⟩
  have HBo : Hid (Blk wo bo #[.bool true] 4) := Lib.hid (by rw [hwo, hbo]; exact Blk.new _ _ _)
  have HBc : Hid (Blk wo w.heap.size #[.int .i64 0, .slice none 0 0, .slice none 0 0, .slice none 0 0, .slice a n c, .slice none 0 0, .slice none 0 0, .slice none 0 0, .string cm] 29) := Lib.hid (by rw [hwo]; exact HB1.out.alloc _)
  have HKo : Hid (Kp (fun _ => False) w wo) := Lib.hid (by rw [hwo]; exact HK1.out.alloc _)
  have HNe : Hid (w.heap.size < bo ∧ bo < wo.heap.size) := Lib.hid ⟨by omega, HBo.out.lt⟩
  rw [show w1.alloc (.cells #[.bool true] 4) = wo from hwo.symm, show w1.heap.size = bo from hbo.symm]
  clear hwo hbo HB1 HK1 hs1
  obtain ⟨c0, c1, c2, c3, c4, c5, c6, c7, c8⟩ := HBc.out.cells9'
  go_wp2_with fail
  go_loopw [24] (fun v24 wr => v24 = .int .i64 0 ∧ wr = wo) (fun _ _ => 0)
  case atStart => exact ⟨rfl, rfl⟩
  case round =>
    obtain ⟨rfl, rfl⟩ := hrel
    obtain ⟨wp, rfl⟩ : ∃ wp : World, wp = wr := ⟨_, rfl⟩
    go_wp2_with fail
    go_loopw [49] (fun v49 wr => v49 = .int .i64 0 ∧ wr = wp) (fun _ _ => 0)
    case atStart => exact ⟨rfl, rfl⟩
    case round =>
      obtain ⟨rfl, rfl⟩ := hrel
      obtain ⟨wq, rfl⟩ : ∃ wq : World, wq = wr := ⟨_, rfl⟩
      have HU := Lib.hid (circ_uses1 (.pointer (some ⟨bo, 0, none⟩)) (.pointer (some ⟨w.heap.size, 0, none⟩)) a n c bo L cm (fun u => Blk u bo #[.bool true] 4 ∧ Blk u w.heap.size #[.int .i64 0, .slice none 0 0, .slice none 0 0, .slice none 0 0, .slice a n c, .slice none 0 0, .slice none 0 0, .slice none 0 0, .string cm] 29) wq
        (HA.out.1.kp HKo.out (fun _ _ h => h)) HA.out.2.1 HA.out.2.2.1 HA.out.2.2.2.1 HNe.out.2 (fun x hx => by have := HA.out.2.2.2.2 x hx; have := HNe.out.1; omega) ⟨HBo.out, HBc.out⟩ (fun u u' hK hI => ⟨hI.1.kp hK (fun h => h), hI.2.kp hK (fun h => h)⟩)
        (fun u hI => (check_1 bo w.heap.size (.slice a n c) cm u hI.1 hI.2).mono (by
          rintro e u' ⟨rfl, rfl⟩
          exact ⟨rfl, ⟨by simpa using hI.1.set_same 0 (.bool true), hI.2.set_other (by have := HNe.out.1; simp; omega) _⟩, Kp.set u ⟨bo, 0, none⟩ (.bool true)⟩)))
      unfold circE at HU
      go_wp2_with fail
      refine HU.out.mono ?_
      rintro e w2 ⟨rfl, ⟨hO2, hC2⟩, hK2⟩
      have HO2 := Lib.hid hO2
      have HC2 := Lib.hid hC2
      have HK2 := Lib.hid (HKo.out.trans hK2 (fun j hj h => by have := HNe.out.1; omega))
      have hlt2 := HNe.out.1
      have hs2 := hC2.lt
      have hs3 := hO2.lt
      clear hO2 hC2 hK2 HU c0 c1 c2 c3 c4 c5 c6 c7 c8 HBo HBc HKo
      obtain ⟨w3, hput, hM3, hK3, hs3'⟩ := (MapB.new w2).put (P := Tryz.prog) (key := .int .i64 0) (.bool true) Tryz.underlying64 Tryz.underlying3 rfl rfl
      have HM3 := Lib.hid hM3
      have hmm := @run_makeMap Tryz.prog
      have o2 := HO2.out.cell (i := 0) (v := .bool true) rfl
      have HO3 := Lib.hid ((HO2.out.alloc _).kp hK3 (by omega))
      have HC3 := Lib.hid ((HC2.out.alloc _).kp hK3 (by omega))
      have HK3 := Lib.hid ((HK2.out.alloc _).trans hK3 (fun j hj h => by omega))
      rw [World.size_alloc] at hs3'
      have HS3 := Lib.hid hs3'
      clear hM3 hK3 hs3'
      go_upto_region 18 with fail
      clear hput hmm o2
      have hs3' := HS3.out
      obtain ⟨bh, hbh⟩ : ∃ bh, bh = w3.heap.size := ⟨_, rfl⟩
      obtain ⟨bm, hbm⟩ : ∃ bm, bm = w2.heap.size := ⟨_, rfl⟩
      obtain ⟨wo, hwo⟩ : ∃ wo : World, wo = w3.alloc (.cells #[.map (some w2.heap.size)] 64) := ⟨_, rfl⟩
      have HBh : Hid (Blk wo bh #[.map (some bm)] 64) := Lib.hid (by rw [hwo, hbh, hbm]; exact Blk.new _ _ _)
      have HBo : Hid (Blk wo bo #[.bool true] 4) := Lib.hid (by rw [hwo]; exact HO3.out.alloc _)
      have HBc : Hid (Blk wo w.heap.size #[.int .i64 0, .slice none 0 0, .slice none 0 0, .slice none 0 0, .slice a n c, .slice none 0 0, .slice none 0 0, .slice none 0 0, .string cm] 29) := Lib.hid (by rw [hwo]; exact HC3.out.alloc _)
      have HKo : Hid (Kp (fun _ => False) w wo) := Lib.hid (by rw [hwo]; exact HK3.out.alloc _)
      have HM : Hid (MapB wo bm zeroMap 1) := Lib.hid (by rw [hwo, hbm]; exact MapB.kp HM3.out ((Kp.refl (fun _ => False) _).alloc _) (fun h => h))
      have HNo : Hid (bo < wo.heap.size ∧ bo ≠ bh ∧ bo ≠ bm ∧ w.heap.size ≠ bh ∧ w.heap.size ≠ bm) := Lib.hid ⟨HBo.out.lt, by omega, by omega, by omega, by omega⟩
      rw [show w3.alloc (.cells #[.map (some w2.heap.size)] 64) = wo from hwo.symm, show w3.heap.size = bh from hbh.symm]
      clear hwo hbh hbm HM3 HO3 HC3 HK3 HO2 HC2 HK2 hs2 hs3 hs3'
      obtain ⟨c0, c1, c2, c3, c4, c5, c6, c7, c8⟩ := HBc.out.cells9'
      go_wp2_with fail
      go_loopw [81] (fun v81 wr => v81 = .int .i64 0 ∧ wr = wo) (fun _ _ => 0)
      case atStart => exact ⟨rfl, rfl⟩
      case round =>
        obtain ⟨rfl, rfl⟩ := hrel
        obtain ⟨wv, rfl⟩ : ∃ wv : World, wv = wr := ⟨_, rfl⟩
        have HU := Lib.hid (circ_uses2 (.pointer (some ⟨bo, 0, none⟩)) (.pointer (some ⟨bh, 0, none⟩)) a n c bo L cm (fun u => Blk u bo #[.bool true] 4 ∧ Blk u bh #[.map (some bm)] 64 ∧ MapB u bm zeroMap 1) wv
          (HA.out.1.kp HKo.out (fun _ _ h => h)) HA.out.2.1 HA.out.2.2.1 HA.out.2.2.2.1 HNo.out.1 (fun x hx => by have := HA.out.2.2.2.2 x hx; have := HNe.out.1; omega) ⟨HBo.out, HBh.out, HM.out⟩ (fun u u' hK hI => ⟨hI.1.kp hK (fun h => h), hI.2.1.kp hK (fun h => h), hI.2.2.kp hK (fun h => h)⟩)
          (fun u hI => (check_2 bo bh bm u hI.1 hI.2.1 hI.2.2).mono (by
            rintro e u' ⟨rfl, rfl⟩
            have hK := Kp.set u ⟨bo, 0, none⟩ (.bool true)
            exact ⟨rfl, ⟨by simpa using hI.1.set_same 0 (.bool true), hI.2.1.kp hK (fun h => HNo.out.2.1 h.symm), hI.2.2.kp hK (fun h => HNo.out.2.2.1 h.symm)⟩, hK⟩)))
        unfold circE at HU
        go_wp2_with fail
        refine HU.out.mono ?_
        rintro e w5 ⟨rfl, ⟨hO5, -, -⟩, hK5⟩
        have HX := Lib.hid (HBc.out.kp hK5 (by have := HNe.out.1; omega))
        have HK5 := Lib.hid (HKo.out.trans hK5 (fun j hj h => by have := HNe.out.1; omega))
        have o5 := hO5.cell (i := 0) (v := .bool true) rfl
        have lx := HX.out.lt
        have lo := hO5.lt
        clear hO5 hK5 HU c0 c1 c2 c3 c4 c5 c6 c7 c8 HBo HBc HKo HBh HM
        go_upto_region 28 with fail
        obtain ⟨wy, rfl⟩ : ∃ wy : World, wy = w5 := ⟨_, rfl⟩
        clear o5 lo
        go_region_held3 (fun u => u.cell? ⟨w.heap.size, 0, none⟩ = some (.int .i64 0) ∧ u.cell? ⟨w.heap.size, 1, none⟩ = some (.slice none 0 0) ∧ u.cell? ⟨w.heap.size, 2, none⟩ = some (.slice none 0 0) ∧ u.cell? ⟨w.heap.size, 3, none⟩ = some (.slice none 0 0) ∧ u.cell? ⟨w.heap.size, 4, none⟩ = some (.slice a n c) ∧ u.cell? ⟨w.heap.size, 5, none⟩ = some (.slice none 0 0) ∧ u.cell? ⟨w.heap.size, 6, none⟩ = some (.slice none 0 0) ∧ u.cell? ⟨w.heap.size, 7, none⟩ = some (.slice none 0 0) ∧ u.cell? ⟨w.heap.size, 8, none⟩ = some (.string cm)) (with_reducible first | exact HX.out.cells9' | exact HX.out.drew.cells9' | exact HXb.out.cells9' | exact HXb.out.drew.cells9') (((with_reducible refine Calls.mono (HO.out _) ?_); rintro o u2 ⟨rfl, hK6⟩; have HXb := Lib.hid (by first | exact HX.out.kp hK6 (fun h => h) | exact HX.out.drew.kp hK6 (fun h => h)); have HKb := Lib.hid (by first | exact HK5.out.trans hK6 (fun _ _ h => h) | exact HK5.out.drew.trans hK6 (fun _ _ h => h)); clear hK6))
        all_goals go_wp2_with fail
        all_goals go_ret
        all_goals exact ⟨rfl, by first | exact HKb.out | exact HKb.out.drew⟩

end Go.Proofs.YtpfofknjlhaanaaGreatDoor
