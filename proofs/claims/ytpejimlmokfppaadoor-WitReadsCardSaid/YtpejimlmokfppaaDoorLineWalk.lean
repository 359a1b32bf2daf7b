/-
  octet.Line and the reference's Line.
-/
import Derived.Test.YtpejimlmokfppaaDoorLinePlain
import Derived.Test.YtpejimlmokfppaaDoorOctGet
import Derived.Test.YtpejimlmokfppaaDoorShelf
namespace Go.Proofs.YtpejimlmokfppaaDoor
open Go.RowKit

def lineV (t : ByteArray × Nat × Nat) : Value := .tuple #[.string t.1, .int .i64 t.2.1, .int .i64 t.2.2]

theorem lineT_out {s : ByteArray} {x : Int} (h : x < 0 ∨ (s.size : Int) < x) : lineT s x = (⟨#[]⟩, 0, 1) := by unfold lineT; rw [if_pos h]
theorem lineT_in {s : ByteArray} {at_ : Nat} (h : at_ ≤ s.size) : lineT s at_ = match feedAt s at_ with | some i => (s.extract at_ i, i + 1, 0) | none => (⟨#[]⟩, 0, 3) := by
  unfold lineT; rw [if_neg (by omega), Int.toNat_natCast]; rfl

set_option maxRecDepth 100000 in
set_option maxHeartbeats 1000000 in
theorem octet_Line_in (s : ByteArray) (at_ : Nat) (w : World) (hs : s.size ≤ 9223372036854775000) (ha : at_ ≤ s.size) :
    Calls Tryd.prog 26 #[.string s, .int .i64 at_] w fun e w' => e = .returned (lineV (lineT s at_)) ∧ w = w' := by
  have o1 : (decide ((at_ : Int) < 0) || decide ((s.size : Int) < (at_ : Int))) = false := by simp; omega
  have HI := Lib.hid (feed_index s at_)
  have HT := Lib.hid (lineT_in ha)
  rcases feed_cases s at_ with ⟨i, hf, h1, h2, h3, h4⟩ | ⟨hf, h4⟩
  · rw [hf] at HI HT
    clear hf h3 h4
    obtain ⟨n, rfl⟩ : ∃ n, i = at_ + n := ⟨i - at_, by omega⟩
    simp only [show at_ + n - at_ = n by omega] at HI
    go_enter Tryd.func26, Tryd.ntmps26
    go_wp2_with fail
    refine (octet_out _ _ _).mono ?_
    rintro e w' ⟨rfl, rfl⟩
    rw [o1]
    go_wp2_with fail
    refine (Tryd.strings_IndexByte _ _ _).mono ?_
    rintro e w' ⟨rfl, hw⟩
    have hw' := hw.symm; clear hw; subst hw'
    rw [show ((10 : Int).toNat.toUInt8) = 10 from rfl, HI.out]
    simp only
    go_wp2_with fail
    go_ret3
    rw [HT.out]
    exact ⟨rfl, rfl⟩
  · rw [hf] at HI HT
    clear hf h4
    go_enter Tryd.func26, Tryd.ntmps26
    go_wp2_with fail
    refine (octet_out _ _ _).mono ?_
    rintro e w' ⟨rfl, rfl⟩
    rw [o1]
    go_wp2_with fail
    refine (Tryd.strings_IndexByte _ _ _).mono ?_
    rintro e w' ⟨rfl, hw⟩
    have hw' := hw.symm; clear hw; subst hw'
    rw [show ((10 : Int).toNat.toUInt8) = 10 from rfl, HI.out]
    simp only
    go_wp2_with fail
    go_ret3
    rw [HT.out]
    exact ⟨rfl, rfl⟩

theorem octet_Line (s : ByteArray) (x : Int) (w : World) (hs : s.size ≤ 9223372036854775000) :
    Calls Tryd.prog 26 #[.string s, .int .i64 x] w fun e w' => e = .returned (lineV (lineT s x)) ∧ w = w' := by
  by_cases h : x < 0 ∨ (s.size : Int) < x
  · have HT := Lib.hid (lineT_out h)
    have o1 : (decide (x < 0) || decide ((s.size : Int) < x)) = true := by simpa using h
    clear h
    go_enter Tryd.func26, Tryd.ntmps26
    go_wp2_with fail
    refine (octet_out _ _ _).mono ?_
    rintro e w' ⟨rfl, rfl⟩
    rw [o1]
    go_wp2_with fail
    go_ret3
    rw [HT.out]
    exact ⟨rfl, rfl⟩
  · obtain ⟨at_, rfl⟩ : ∃ at_ : Nat, x = at_ := ⟨x.toNat, by omega⟩
    exact octet_Line_in s at_ w hs (by omega)

set_option maxRecDepth 100000 in
set_option maxHeartbeats 1000000 in
theorem ref_Line_in (s : ByteArray) (at_ : Nat) (w : World) (hs : s.size ≤ 9223372036854775000) (ha : at_ ≤ s.size) :
    Calls Tryd.prog 16 #[.string s, .int .i64 at_] w fun e w' => e = .returned (lineV (lineT s at_)) ∧ w = w' := by
  have o1 : decide ((at_ : Int) < 0) = false := by simp
  have o3 : decide (s.size < at_) = false := by simp; omega
  have HT := Lib.hid (lineT_in ha)
  go_enter Tryd.func16, Tryd.ntmps16
  go_wp2_with fail
  go_loop [7] (fun v => ∃ k : Nat, v = .int .i64 ((at_ + k : Nat) : Int) ∧ at_ + k ≤ s.size ∧ ∀ j, at_ ≤ j → j < at_ + k → bt s j ≠ 10) (fun v => s.size - (intOf v).toNat)
  case atStart => exact ⟨0, rfl, by omega, fun j h1 h2 => by omega⟩
  case round =>
    obtain ⟨k, rfl, hk, hn⟩ := hrel
    have HN := Lib.hid hn; clear hn
    by_cases hlt : at_ + k < s.size
    · have l1 : decide (((at_ + k : Nat) : Int) < (s.size : Int)) = true := by simp; omega
      have hC := bt_lt s (at_ + k)
      have hc0 := bt_eq (s := s) (i := at_ + k) hlt
      by_cases h10 : bt s (at_ + k) = 10
      · have HF := Lib.hid (feed_some hlt (Nat.le_add_right _ _) h10 HN.out)
        rw [h10] at hc0
        clear h10 hC
        go_wp2_with fail
        go_ret3
        rw [HT.out, HF.out]
        exact ⟨rfl, rfl⟩
      · have HX := Lib.hid (show ∀ j, at_ ≤ j → j < at_ + (k + 1) → bt s j ≠ 10 from fun j h1 h2 => by
          by_cases e : j = at_ + k
          · subst e; exact h10
          · exact HN.out j h1 (by omega))
        obtain ⟨B, hB⟩ : ∃ B, bt s (at_ + k) = B := ⟨_, rfl⟩
        rw [hB] at hc0 hC h10
        clear hB
        have q : ((B : Int) == 10) = false := by rw [beq_eq_false_iff_ne]; omega
        clear h10
        go_wp2_with fail
        refine ⟨⟨k + 1, by simp; omega, by omega, HX.out⟩, ?_⟩
        simp [intOf]; omega
    · have l1 : decide (((at_ + k : Nat) : Int) < (s.size : Int)) = false := by simp; omega
      have HF := Lib.hid (feed_none (s := s) (at_ := at_) (fun j h1 h2 => HN.out j h1 (by omega)))
      go_wp2_with fail
      go_ret3
      rw [HT.out, HF.out]
      exact ⟨rfl, rfl⟩

theorem ref_Line (s : ByteArray) (x : Int) (w : World) (hs : s.size ≤ 9223372036854775000) :
    Calls Tryd.prog 16 #[.string s, .int .i64 x] w fun e w' => e = .returned (lineV (lineT s x)) ∧ w = w' := by
  by_cases h : x < 0 ∨ (s.size : Int) < x
  · have HT := Lib.hid (lineT_out h)
    by_cases h1 : x < 0
    · have o1 : decide (x < 0) = true := by simpa using h1
      clear h
      go_enter Tryd.func16, Tryd.ntmps16
      go_wp2_with fail
      go_ret3
      rw [HT.out]
      exact ⟨rfl, rfl⟩
    · have o1 : decide (x < 0) = false := by simpa using h1
      have o2 : decide ((s.size : Int) < x) = true := by simp; omega
      clear h
      go_enter Tryd.func16, Tryd.ntmps16
      go_wp2_with fail
      go_ret3
      rw [HT.out]
      exact ⟨rfl, rfl⟩
  · obtain ⟨at_, rfl⟩ : ∃ at_ : Nat, x = at_ := ⟨x.toNat, by omega⟩
    exact ref_Line_in s at_ w hs (by omega)

end Go.Proofs.YtpejimlmokfppaaDoor
