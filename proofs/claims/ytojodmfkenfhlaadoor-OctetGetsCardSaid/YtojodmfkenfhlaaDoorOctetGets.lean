/-
  latchetlaw01.OctetGets: its walk.
-/
import Derived.Test.YtojodmfkenfhlaaDoorOctLives
namespace Go.Proofs.YtojodmfkenfhlaaDoor
open Go.RowKit

set_option maxRecDepth 100000 in
set_option maxHeartbeats 1000000 in
theorem octetGets_in (s : ByteArray) (x : Int) (w : World) (t : ByteArray) (ht : Tab w) (h : s.size ≤ 2000 ∧ t = s ∨ 2000 < s.size ∧ t = s.extract 0 2000) :
    Calls Tryd.prog 4 #[.string s, .int .i64 x] w fun e w' => e = .returned (.bool true) ∧ Below w.heap.size w w' := by
  have HT := Lib.hid ht; clear ht
  have hts : t.size ≤ 2000 := by
    rcases h with ⟨h, rfl⟩ | ⟨h, rfl⟩
    · exact h
    · rw [ByteArray.size_extract]; omega
  have hts2 : t.size ≤ 9223372036854775000 := by omega
  obtain ⟨⟨a1, a2, a3⟩, hG⟩ : ∃ r, getT t x = r := ⟨_, rfl⟩
  obtain ⟨⟨b1, b2, b3⟩, hN⟩ : ∃ r, natT t x = r := ⟨_, rfl⟩
  have HG := Lib.hid hG; clear hG
  have HN := Lib.hid hN; clear hN
  have q1 : ((a1 : Int) != (a1 : Int)) = false := by simp
  have q2 : ((a2 : Int) != (a2 : Int)) = false := by simp
  have q3 : ((a3 : Int) != (a3 : Int)) = false := by simp
  have q4 : ((b1 : Int) == (b1 : Int)) = true := by simp
  have q5 : ((b2 : Int) == (b2 : Int)) = true := by simp
  have q6 : ((b3 : Int) == (b3 : Int)) = true := by simp
  rcases h with ⟨h, rfl⟩ | ⟨h, rfl⟩
  · have c1 : decide ((2000 : Int) < (t.size : Int)) = false := by simp; omega
    go_enter Tryd.func4, Tryd.ntmps4
    go_wp2_with fail
    refine (octet_Get t x _ hts2).mono ?_
    rintro e w' ⟨rfl, rfl⟩
    rw [HG.out]
    unfold tripV
    go_wp2_with fail
    refine (ref_Get t x _ hts2).mono ?_
    rintro e w' ⟨rfl, rfl⟩
    rw [HG.out]
    unfold tripV
    go_wp2_with fail
    refine (octet_Nat t x _ hts2).mono ?_
    rintro e w1 ⟨rfl, hK1⟩
    rw [HN.out]
    unfold tripI
    go_wp2_with fail
    refine (ref_Nat t x _ hts2).mono ?_
    rintro e w' ⟨rfl, rfl⟩
    rw [HN.out]
    unfold tripI
    go_wp2_with fail
    refine (oct_lives _ (HT.out.kp hK1)).mono ?_
    rintro e w2 ⟨rfl, hK2⟩
    go_wp2_with fail
    go_ret
    exact ⟨rfl, Kp.below (hK1.trans hK2 (fun _ _ h => h)) (Nat.le_refl _) (fun _ _ h => h)⟩
  · have c1 : decide ((2000 : Int) < (s.size : Int)) = true := by simp; omega
    go_enter Tryd.func4, Tryd.ntmps4
    go_wp2_with fail
    generalize s.extract 0 2000 = t at *
    refine (octet_Get t x _ hts2).mono ?_
    rintro e w' ⟨rfl, rfl⟩
    rw [HG.out]
    unfold tripV
    go_wp2_with fail
    refine (ref_Get t x _ hts2).mono ?_
    rintro e w' ⟨rfl, rfl⟩
    rw [HG.out]
    unfold tripV
    go_wp2_with fail
    refine (octet_Nat t x _ hts2).mono ?_
    rintro e w1 ⟨rfl, hK1⟩
    rw [HN.out]
    unfold tripI
    go_wp2_with fail
    refine (ref_Nat t x _ hts2).mono ?_
    rintro e w' ⟨rfl, rfl⟩
    rw [HN.out]
    unfold tripI
    go_wp2_with fail
    refine (oct_lives _ (HT.out.kp hK1)).mono ?_
    rintro e w2 ⟨rfl, hK2⟩
    go_wp2_with fail
    go_ret
    exact ⟨rfl, Kp.below (hK1.trans hK2 (fun _ _ h => h)) (Nat.le_refl _) (fun _ _ h => h)⟩

theorem octetGets_walk (s : ByteArray) (_hs : s.size ≤ maxLen) (x : Int) (_wx : (Lit.int .i64 x).wf = true) (w : World) (ht : Tab w) :
    Calls Tryd.prog 4 #[.string s, .int .i64 x] w fun e w' => e = .returned (.bool true) ∧ Below w.heap.size w w' := by
  by_cases h : s.size ≤ 2000
  · exact octetGets_in s x w s ht (.inl ⟨h, rfl⟩)
  · exact octetGets_in s x w _ ht (.inr ⟨by omega, rfl⟩)

end Go.Proofs.YtojodmfkenfhlaaDoor
