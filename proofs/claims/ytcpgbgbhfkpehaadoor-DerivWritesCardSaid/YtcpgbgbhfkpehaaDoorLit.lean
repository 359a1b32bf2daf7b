/-
  lit and latchetref02: a literal's text, and the literal of a text.
-/
import Derived.Test.YtcpgbgbhfkpehaaDoorDerivPlain
import Derived.Test.YtcpgbgbhfkpehaaDoorOctLives
import Derived.Test.YtcpgbgbhfkpehaaDoorOctDec
namespace Go.Proofs.YtcpgbgbhfkpehaaDoor
open Go.RowKit

def gl (l : Int) : Bool := decide (0 ≤ l ∧ l ≤ 33554433)

/-- a literal's text -/
def litText (l : Int) : List UInt8 := if gl l then (if l % 2 = 1 then 33 :: Lib.itoa (l / 2) else Lib.itoa (l / 2)) else [63]

theorem lit_Good (l : Int) (w : World) : Calls Tryd.prog 188 #[.int .i64 l] w fun e w' => e = .returned (.bool (gl l)) ∧ w = w' := by
  by_cases h0 : 0 ≤ l
  · by_cases h1 : l ≤ 33554433
    · have HG := Lib.hid (show gl l = true by simp [gl, h0, h1])
      go_enter Tryd.func188, Tryd.ntmps188
      go_wp2
      go_ret
      rw [HG.out]
      exact ⟨rfl, rfl⟩
    · have HG := Lib.hid (show gl l = false by simp [gl, h1])
      have d1 : decide (l ≤ 33554433) = false := by simp; omega
      go_enter Tryd.func188, Tryd.ntmps188
      go_wp2
      go_ret
      rw [HG.out]
      exact ⟨rfl, rfl⟩
  · have HG := Lib.hid (show gl l = false by simp [gl, h0])
    have d1 : decide (0 ≤ l) = false := by simp; omega
    go_enter Tryd.func188, Tryd.ntmps188
    go_wp2
    go_ret
    rw [HG.out]
    exact ⟨rfl, rfl⟩

theorem ref02_Good (l : Int) (w : World) : Calls Tryd.prog 50 #[.int .i64 l] w fun e w' => e = .returned (.bool (gl l)) ∧ w = w' := by
  by_cases h0 : 0 ≤ l
  · by_cases h1 : l < 33554434
    · have HG := Lib.hid (show gl l = true by simp [gl, h0]; omega)
      go_enter Tryd.func50, Tryd.ntmps50
      go_wp2
      go_ret
      rw [HG.out]
      exact ⟨rfl, rfl⟩
    · have HG := Lib.hid (show gl l = false by simp [gl]; omega)
      have d1 : decide (l < 33554434) = false := by simp; omega
      go_enter Tryd.func50, Tryd.ntmps50
      go_wp2
      go_ret
      rw [HG.out]
      exact ⟨rfl, rfl⟩
  · have HG := Lib.hid (show gl l = false by simp [gl, h0])
    have d1 : decide (0 ≤ l) = false := by simp; omega
    go_enter Tryd.func50, Tryd.ntmps50
    go_wp2
    go_ret
    rw [HG.out]
    exact ⟨rfl, rfl⟩

theorem and_one (n : Int) : bits .and .i64 n 1 = n % 2 := by
  have h1 : (BitVec.ofInt 64 1).toNat = 2 ^ 1 - 1 := by decide
  have key : (BitVec.ofInt 64 n &&& BitVec.ofInt 64 1).toNat = (n % ((2 ^ 64 : Nat) : Int)).toNat % 2 ^ 1 := by
    rw [BitVec.toNat_and, BitVec.toNat_ofInt, h1, Nat.and_two_pow_sub_one_eq_mod]
  show IntKind.i64.wrap ((BitVec.ofInt 64 n &&& BitVec.ofInt 64 1).toNat : Nat) = n % 2
  rw [key, IntKind.wrap_i64]
  omega

theorem lit_Neg (l : Int) (hg : gl l = true) (w : World) : Calls Tryd.prog 189 #[.int .i64 l] w fun e w' => e = .returned (.bool (l % 2 == 1)) ∧ w = w' := by
  have h : 0 ≤ l ∧ l ≤ 33554433 := by simpa [gl] using hg
  have hb := and_one l
  have HG := Lib.hid hg; clear hg h
  go_enter Tryd.func189, Tryd.ntmps189
  go_wp2_with fail
  refine (lit_Good _ _).mono ?_
  rintro e w' ⟨rfl, rfl⟩
  rw [HG.out]
  go_wp2_with fail
  go_ret
  exact ⟨rfl, rfl⟩

theorem lit_Var (l : Int) (hg : gl l = true) (w : World) : Calls Tryd.prog 190 #[.int .i64 l] w fun e w' => e = .returned (.int .i64 (l / 2)) ∧ w = w' := by
  have h : 0 ≤ l ∧ l ≤ 33554433 := by simpa [gl] using hg
  obtain ⟨h0, h1⟩ := h
  have HG := Lib.hid hg; clear hg
  go_enter Tryd.func190, Tryd.ntmps190
  go_wp2_with (first | (go_at_call 188; refine (lit_Good _ _).mono ?_; rintro e w' ⟨rfl, rfl⟩; rw [HG.out]) | go_in)
  go_ret
  exact ⟨rfl, rfl⟩

theorem litSize (l : Int) : (litText l).length ≤ 23 := by
  unfold litText
  split
  · have := itoaLen (n := l / 2)
    rename_i hg
    have h : 0 ≤ l ∧ l ≤ 33554433 := by simpa [gl] using hg
    have := this (by omega) (by omega)
    split
    · simp; omega
    · omega
  · simp

set_option maxHeartbeats 1000000 in
theorem lit_Text (l : Int) (w : World) (ht : Tab w) : Calls Tryd.prog 159 #[.int .i64 l] w fun e w' => e = .returned (.string ⟨(litText l).toArray⟩) ∧ Kp (fun _ => False) w w' := by
  have HT := Lib.hid ht; clear ht
  by_cases hg : gl l = true
  · have h : 0 ≤ l ∧ l ≤ 33554433 := by simpa [gl] using hg
    obtain ⟨h0, h1⟩ := h
    have hlen := itoaLen (n := l / 2) (by omega) (by omega)
    have HD := Lib.hid (fun u hu => octet_Dec (l / 2) u (by omega) (by omega) hu)
    have HG := Lib.hid (fun u => lit_Good l u)
    rw [hg] at HG
    have HN := Lib.hid (fun u => lit_Neg l hg u)
    have HV := Lib.hid (fun u => lit_Var l hg u)
    by_cases hn : l % 2 = 1
    · have HX := Lib.hid (show litText l = 33 :: Lib.itoa (l / 2) by unfold litText; rw [if_pos hg, if_pos hn])
      rw [show (l % 2 == 1) = true by simp [hn]] at HN
      have hl2 : ¬ 9223372036854775807 < 1 + (Lib.itoa (l / 2)).length := by omega
      have hl3 : ¬ 9223372036854775807 < (Lib.itoa (l / 2)).length + 1 := by omega
      clear hg hn h0 h1
      obtain ⟨t, ht⟩ : ∃ t, Lib.itoa (l / 2) = t := ⟨_, rfl⟩
      obtain ⟨v, hv⟩ : ∃ v, l / 2 = v := ⟨_, rfl⟩
      rw [ht] at HX HD hl2 hl3 hlen
      rw [hv] at HD HV
      clear ht hv
      go_enter Tryd.func159, Tryd.ntmps159
      go_wp2_with fail
      refine (HG.out _).mono ?_
      rintro e w' ⟨rfl, rfl⟩
      go_wp2_with fail
      refine (HN.out _).mono ?_
      rintro e w' ⟨rfl, rfl⟩
      go_wp2_with fail
      refine (HV.out _).mono ?_
      rintro e w' ⟨rfl, rfl⟩
      go_wp2_with fail
      refine (HD.out _ HT.out).mono ?_
      rintro e w1 ⟨rfl, hK⟩
      go_wp2_with fail
      go_ret
      rw [HX.out]
      exact ⟨congrArg (fun x => Ending.returned (Value.string x)) (cat_bytes [33] t), hK⟩
    · have HX := Lib.hid (show litText l = Lib.itoa (l / 2) by unfold litText; rw [if_pos hg, if_neg hn])
      rw [show (l % 2 == 1) = false by simp [hn]] at HN
      clear hg hn h0 h1
      obtain ⟨t, ht⟩ : ∃ t, Lib.itoa (l / 2) = t := ⟨_, rfl⟩
      obtain ⟨v, hv⟩ : ∃ v, l / 2 = v := ⟨_, rfl⟩
      rw [ht] at HX HD hlen
      rw [hv] at HD HV
      clear ht hv
      go_enter Tryd.func159, Tryd.ntmps159
      go_wp2_with fail
      refine (HG.out _).mono ?_
      rintro e w' ⟨rfl, rfl⟩
      go_wp2_with fail
      refine (HN.out _).mono ?_
      rintro e w' ⟨rfl, rfl⟩
      go_wp2_with fail
      refine (HV.out _).mono ?_
      rintro e w' ⟨rfl, rfl⟩
      go_wp2_with fail
      refine (HD.out _ HT.out).mono ?_
      rintro e w1 ⟨rfl, hK⟩
      go_wp2_with fail
      go_ret
      rw [HX.out]
      exact ⟨rfl, hK⟩
  · have HX := Lib.hid (show litText l = [63] by unfold litText; rw [if_neg hg])
    have HG := Lib.hid (fun u => lit_Good l u)
    rw [show gl l = false by simpa using hg] at HG
    clear hg
    go_enter Tryd.func159, Tryd.ntmps159
    go_wp2_with fail
    refine (HG.out _).mono ?_
    rintro e w' ⟨rfl, rfl⟩
    go_wp2_with fail
    go_ret
    rw [HX.out]
    exact ⟨rfl, Kp.refl _ _⟩

set_option maxHeartbeats 1000000 in
theorem ref02_Text (l : Int) (w : World) : Calls Tryd.prog 111 #[.int .i64 l] w fun e w' => e = .returned (.string ⟨(litText l).toArray⟩) ∧ Kp (fun _ => False) w w' := by
  by_cases hg : gl l = true
  · have h : 0 ≤ l ∧ l ≤ 33554433 := by simpa [gl] using hg
    obtain ⟨h0, h1⟩ := h
    have hlen := itoaLen (n := l / 2) (by omega) (by omega)
    have HD := Lib.hid (fun u => ref_Dec (l / 2) u (by omega) (by omega))
    have HG := Lib.hid (fun u => ref02_Good l u)
    rw [hg] at HG
    by_cases hn : l % 2 = 1
    · have HX := Lib.hid (show litText l = 33 :: Lib.itoa (l / 2) by unfold litText; rw [if_pos hg, if_pos hn])
      have d1 : (l % 2 == 1) = true := by simp [hn]
      have hl2 : ¬ 9223372036854775807 < 1 + (Lib.itoa (l / 2)).length := by omega
      have hl3 : ¬ 9223372036854775807 < (Lib.itoa (l / 2)).length + 1 := by omega
      clear hg hn
      go_enter Tryd.func111, Tryd.ntmps111
      go_wp2_with fail
      refine (HG.out _).mono ?_
      rintro e w' ⟨rfl, rfl⟩
      go_wp2_with fail
      refine (HD.out _).mono ?_
      rintro e w1 ⟨rfl, hK⟩
      go_wp2_with fail
      go_ret
      rw [HX.out]
      exact ⟨congrArg (fun x => Ending.returned (Value.string x)) (cat_bytes [33] _), hK⟩
    · have HX := Lib.hid (show litText l = Lib.itoa (l / 2) by unfold litText; rw [if_pos hg, if_neg hn])
      have d1 : (l % 2 == 1) = false := by simp [hn]
      clear hg hn
      go_enter Tryd.func111, Tryd.ntmps111
      go_wp2_with fail
      refine (HG.out _).mono ?_
      rintro e w' ⟨rfl, rfl⟩
      go_wp2_with fail
      refine (HD.out _).mono ?_
      rintro e w1 ⟨rfl, hK⟩
      go_wp2_with fail
      go_ret
      rw [HX.out]
      exact ⟨rfl, hK⟩
  · have HX := Lib.hid (show litText l = [63] by unfold litText; rw [if_neg hg])
    have HG := Lib.hid (fun u => ref02_Good l u)
    rw [show gl l = false by simpa using hg] at HG
    clear hg
    go_enter Tryd.func111, Tryd.ntmps111
    go_wp2_with fail
    refine (HG.out _).mono ?_
    rintro e w' ⟨rfl, rfl⟩
    go_wp2_with fail
    go_ret
    rw [HX.out]
    exact ⟨rfl, Kp.refl _ _⟩

end Go.Proofs.YtcpgbgbhfkpehaaDoor
