/-
  latchetlaw01.OctetPuts: its walk.
-/
import Derived.Test.YtojodmfkenfhlaaDoorOctDec
namespace Go.Proofs.YtojodmfkenfhlaaDoor
open Go.RowKit

theorem puts_got (n : Nat) (hn : n < 4294967296) (t : ByteArray) : getT ((⟨(numL 5 n).toArray⟩ : ByteArray) ++ t) 0 = (n, (⟨(numL 5 n).toArray⟩ : ByteArray).size, 0) := by
  have e : t = ⟨(t.data.toList).toArray⟩ := by apply ByteArray.ext; simp
  rw [e, cat_bytes, get_puts _ _ hn, size_list]

set_option maxRecDepth 100000 in
set_option maxHeartbeats 1000000 in
theorem octetPuts_in (n : Nat) (hn : n < 4294967296) (m : Int) (h1 : -9223372036854775808 ≤ m) (h2 : m ≤ 9223372036854775807) (s : ByteArray) (w : World) (t : ByteArray) (ht : Tab w) (h : s.size ≤ 300 ∧ t = s ∨ 300 < s.size ∧ t = s.extract 0 300) :
    Calls Tryd.prog 3 #[.int .u32 n, .int .i64 m, .string s] w fun e w' => e = .returned (.bool true) ∧ Below w.heap.size w w' := by
  have HT := Lib.hid ht; clear ht
  have hts : t.size ≤ 300 := by
    rcases h with ⟨h, rfl⟩ | ⟨h, rfl⟩
    · exact h
    · rw [ByteArray.size_extract]; omega
  obtain ⟨S, hS, hSz, hG⟩ : ∃ S : ByteArray, (⟨(numL 5 n).toArray⟩ : ByteArray) = S ∧ S.size ≤ 6 ∧ getT (S ++ t) 0 = (n, S.size, 0) := ⟨_, rfl, by rw [size_list]; exact numL_length 5 n, puts_got n hn t⟩
  obtain ⟨D, hD⟩ : ∃ D : ByteArray, (⟨(Lib.itoa m).toArray⟩ : ByteArray) = D := ⟨_, rfl⟩
  have HS := Lib.hid hS; clear hS
  have HD := Lib.hid hD; clear hD
  have HG := Lib.hid hG; clear hG
  have hcat : ¬ 9223372036854775807 < S.size + t.size := by omega
  have hts2 : (S ++ t).size ≤ 9223372036854775000 := by rw [ByteArray.size_append]; omega
  have HZ := Lib.hid hts2; clear hts2
  have q3 : ((n : Int) == (n : Int)) = true := by simp
  have q4 : ((S.size : Int) == (S.size : Int)) = true := by simp
  rcases h with ⟨h, rfl⟩ | ⟨h, rfl⟩
  · have c1 : decide ((300 : Int) < (t.size : Int)) = false := by simp; omega
    go_enter Tryd.func3, Tryd.ntmps3
    go_wp2_with fail
    refine (octet_Num n _ hn).mono ?_
    rintro e w1 ⟨rfl, hK1⟩
    rw [HS.out]
    go_wp2_with fail
    refine (octet_Get (S ++ t) 0 _ HZ.out).mono ?_
    rintro e w' ⟨rfl, rfl⟩
    rw [HG.out]
    unfold tripV
    go_wp2_with fail
    refine (ref_Num n _ hn).mono ?_
    rintro e w2 ⟨rfl, hK2⟩
    rw [HS.out]
    go_wp2_with fail
    refine (octet_Dec m _ h1 h2 ((HT.out.kp hK1).kp hK2)).mono ?_
    rintro e w3 ⟨rfl, hK3⟩
    rw [HD.out]
    go_wp2_with fail
    refine (ref_Dec m _ h1 h2).mono ?_
    rintro e w4 ⟨rfl, hK4⟩
    rw [HD.out]
    go_wp2_with fail
    refine (oct_lives _ ((((HT.out.kp hK1).kp hK2).kp hK3).kp hK4)).mono ?_
    rintro e w5 ⟨rfl, hK5⟩
    go_wp2_with fail
    go_ret
    exact ⟨rfl, Kp.below ((((hK1.trans hK2 (fun _ _ h => h)).trans hK3 (fun _ _ h => h)).trans hK4 (fun _ _ h => h)).trans hK5 (fun _ _ h => h)) (Nat.le_refl _) (fun _ _ h => h)⟩
  · have c1 : decide ((300 : Int) < (s.size : Int)) = true := by simp; omega
    go_enter Tryd.func3, Tryd.ntmps3
    go_wp2_with fail
    generalize s.extract 0 300 = t at *
    refine (octet_Num n _ hn).mono ?_
    rintro e w1 ⟨rfl, hK1⟩
    rw [HS.out]
    go_wp2_with fail
    refine (octet_Get (S ++ t) 0 _ HZ.out).mono ?_
    rintro e w' ⟨rfl, rfl⟩
    rw [HG.out]
    unfold tripV
    go_wp2_with fail
    refine (ref_Num n _ hn).mono ?_
    rintro e w2 ⟨rfl, hK2⟩
    rw [HS.out]
    go_wp2_with fail
    refine (octet_Dec m _ h1 h2 ((HT.out.kp hK1).kp hK2)).mono ?_
    rintro e w3 ⟨rfl, hK3⟩
    rw [HD.out]
    go_wp2_with fail
    refine (ref_Dec m _ h1 h2).mono ?_
    rintro e w4 ⟨rfl, hK4⟩
    rw [HD.out]
    go_wp2_with fail
    refine (oct_lives _ ((((HT.out.kp hK1).kp hK2).kp hK3).kp hK4)).mono ?_
    rintro e w5 ⟨rfl, hK5⟩
    go_wp2_with fail
    go_ret
    exact ⟨rfl, Kp.below ((((hK1.trans hK2 (fun _ _ h => h)).trans hK3 (fun _ _ h => h)).trans hK4 (fun _ _ h => h)).trans hK5 (fun _ _ h => h)) (Nat.le_refl _) (fun _ _ h => h)⟩

theorem octetPuts_walk (n : Int) (wn : (Lit.int .u32 n).wf = true) (m : Int) (wm : (Lit.int .i64 m).wf = true) (s : ByteArray) (_hs : s.size ≤ maxLen) (w : World) (ht : Tab w) :
    Calls Tryd.prog 3 #[.int .u32 n, .int .i64 m, .string s] w fun e w' => e = .returned (.bool true) ∧ Below w.heap.size w w' := by
  have hn : 0 ≤ n ∧ n < 4294967296 := by simp [Lit.wf, IntKind.min, IntKind.max, IntKind.bits, IntKind.signed] at wn; omega
  have hm : -9223372036854775808 ≤ m ∧ m ≤ 9223372036854775807 := by simp [Lit.wf, IntKind.min, IntKind.max, IntKind.bits, IntKind.signed] at wm; omega
  obtain ⟨k, rfl⟩ : ∃ k : Nat, n = k := ⟨n.toNat, by omega⟩
  by_cases h : s.size ≤ 300
  · exact octetPuts_in k (by omega) m hm.1 hm.2 s w s ht (.inl ⟨h, rfl⟩)
  · exact octetPuts_in k (by omega) m hm.1 hm.2 s w _ ht (.inr ⟨by omega, rfl⟩)

end Go.Proofs.YtojodmfkenfhlaaDoor
