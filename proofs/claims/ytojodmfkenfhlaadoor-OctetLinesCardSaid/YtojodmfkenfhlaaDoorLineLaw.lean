/-
  The reference's Strings on like lists; latchetlaw01.OctetLines: its walk.
-/
import Derived.Test.YtojodmfkenfhlaaDoorWordWalk
import Derived.Test.YtojodmfkenfhlaaDoorOctLives
import Derived.Deep.QuietTactic
import Derived.BigQuiet
namespace Go.Proofs.YtojodmfkenfhlaaDoor
open Go.RowKit

def sa (L : List ByteArray) (k : Nat) : ByteArray := (L[k]?).getD .empty

theorem sa_at {L : List ByteArray} {k : Nat} (h : k < L.length) : (strs L)[k]? = some (.string (sa L k)) := by
  simp [strs, sa, List.getElem?_eq_getElem h]

set_option maxHeartbeats 400000 in
theorem ref_Strings (a a' : Option Addr) (n cap cap' : Nat) (L : List ByteArray) (w : World) (ha : RowAt w a (strs L)) (ha' : RowAt w a' (strs L)) (hl : L.length = n) (hn : n ≤ 9223372036854775807) :
    Calls Tryd.prog 44 #[.slice a n cap, .slice a' n cap'] w fun e w' => e = .returned (.bool true) ∧ ∃ n, w' = w.drewN n := by
  have HL := Lib.hid hl; clear hl
  have b1 : ((n : Int) != (n : Int)) = false := by simp
  go_enter Tryd.func44, Tryd.ntmps44
  go_wp2
  go_loopw [5] (fun i wr => ∃ k m : Nat, k ≤ n ∧ i = .int .i64 k ∧ wr = w.drewN m) (fun i _ => n - (intOf i).toNat)
  case atStart => exact ⟨0, 0, Nat.zero_le _, rfl, rfl⟩
  case round =>
    obtain ⟨k, m, hk, rfl, rfl⟩ := hrel
    by_cases hlt : k < n
    · obtain ⟨b, off, rfl, hc⟩ := ha k _ (sa_at (by rw [HL.out]; exact hlt))
      obtain ⟨b', off', rfl, hc'⟩ := ha' k _ (sa_at (by rw [HL.out]; exact hlt))
      have i1 : (0 : Int) ≤ (k : Int) := by omega
      have i2 : (k : Int) < (n : Int) := by omega
      have q1 : (!((sa L k).toList == (sa L k).toList)) = false := by simp
      have q2 : ((sa L k).toList == (sa L k).toList) = true := by simp
      go_wp2
      go_quiet (fail)
      go_wp2
      go_roundw
      case rel => exact ⟨k + 1, _, by omega, by go_num, rfl⟩
      case measure => simp [intOf]; omega
    · go_wp2
      go_ret
      exact ⟨rfl, _, rfl⟩

theorem jn_step {xs : List (List UInt8)} {k : Nat} (h0 : 0 < k) (hk : k < xs.length) : jn (xs.take (k + 1)) = jn (xs.take k) ++ 32 :: xs[k] := by
  rw [List.take_succ_eq_append_getElem hk, jn_snoc]
  intro h
  rcases List.take_eq_nil_iff.1 h with h | h
  · omega
  · rw [h] at hk; simp at hk

theorem jn_first {xs : List (List UInt8)} (hk : 0 < xs.length) : jn (xs.take (0 + 1)) = xs[0] := by
  rw [List.take_succ_eq_append_getElem hk]; simp [jn]

theorem jn_le : ∀ (xs : List (List UInt8)) (k : Nat), (jn (xs.take k)).length ≤ (jn xs).length
  | [], k => by simp
  | [x], k => by cases k <;> simp [jn]
  | x :: y :: r, 0 => by simp [jn]
  | x :: y :: r, 1 => by simp [jn]
  | x :: y :: r, k + 2 => by
    have := jn_le (y :: r) (k + 1)
    simp only [List.take_succ_cons, jn, List.length_append, List.length_cons] at this ⊢
    omega

theorem words_len (s : ByteArray) : (wordsB s).length = (wordsF s.data.toList).length := by simp [wordsB, mkW]
theorem sa_words {s : ByteArray} {k : Nat} (h : k < (wordsF s.data.toList).length) : (sa (wordsB s) k).data.toList = (wordsF s.data.toList)[k] := by
  simp [sa, wordsB, mkW, List.getElem?_eq_getElem h]

theorem of_jn {s S : ByteArray} {k : Nat} (h : S.data.toList = jn ((wordsF s.data.toList).take k)) : S.size ≤ s.size := by
  have h1 := jn_le (wordsF s.data.toList) k
  rw [jn_words, ← h] at h1
  simpa using h1

theorem jn_all {s S : ByteArray} {k : Nat} (hk : (wordsB s).length ≤ k) (h : S.data.toList = jn ((wordsF s.data.toList).take k)) : S = s := by
  rw [List.take_of_length_le (by rw [← words_len]; exact hk), jn_words] at h
  apply ByteArray.ext
  exact Array.ext' h

theorem jn_at0 {s S : ByteArray} {k : Nat} (h0 : ¬ 0 < k) (hk : k < (wordsB s).length) (h : S.data.toList = jn ((wordsF s.data.toList).take k)) : (S ++ sa (wordsB s) k).data.toList = jn ((wordsF s.data.toList).take (k + 1)) := by
  obtain rfl : k = 0 := by omega
  rw [words_len] at hk
  have e : S.data.toList = [] := h
  rw [jn_first hk, ← sa_words hk, ByteArray.data_append, Array.toList_append, e]; rfl

theorem jn_at {s S : ByteArray} {k : Nat} (h0 : 0 < k) (hk : k < (wordsB s).length) (h : S.data.toList = jn ((wordsF s.data.toList).take k)) : ((S ++ ⟨#[32]⟩) ++ sa (wordsB s) k).data.toList = jn ((wordsF s.data.toList).take (k + 1)) := by
  rw [words_len] at hk
  rw [jn_step h0 hk, ← sa_words hk, ← h]; simp

theorem sa_size {s : ByteArray} {k : Nat} (h : k < (wordsB s).length) (hs : s.size ≤ 2000) : (sa (wordsB s) k).size ≤ 100000 := by
  have h' := h
  rw [words_len] at h'
  have h1 := sa_words h'
  have h2 : ((wordsF s.data.toList)[k]).length ≤ (jn ((wordsF s.data.toList).take (k + 1))).length := by
    by_cases h0 : 0 < k
    · rw [jn_step h0 h']; simp; omega
    · obtain rfl : k = 0 := by omega
      rw [jn_first h']; exact Nat.le_refl _
  have h3 := jn_le (wordsF s.data.toList) (k + 1)
  rw [jn_words] at h3
  have h4 : (sa (wordsB s) k).size = ((wordsF s.data.toList)[k]).length := by rw [← h1]; simp
  have h5 : s.data.toList.length = s.size := by simp
  omega

set_option maxRecDepth 100000 in
set_option maxHeartbeats 1000000 in
theorem octetLines_in (s : ByteArray) (x : Int) (w : World) (t : ByteArray) (ht : Tab w) (hm : ∃ m, w.cell? ⟨0, 0, none⟩ = some (.int .i64 m)) (h : s.size ≤ 2000 ∧ t = s ∨ 2000 < s.size ∧ t = s.extract 0 2000) :
    Calls Tryd.prog 10 #[.string s, .int .i64 x] w fun e w' => e = .returned (.bool true) ∧ Below w.heap.size w w' := by
  have HT := Lib.hid ht; clear ht
  obtain ⟨m, hm⟩ := hm
  have HM := Lib.hid hm; clear hm
  have hts : t.size ≤ 2000 := by
    rcases h with ⟨h, rfl⟩ | ⟨h, rfl⟩
    · exact h
    · rw [ByteArray.size_extract]; omega
  have hts2 : t.size ≤ 9223372036854775000 := by omega
  have hts3 : t.size ≤ 100000 := by omega
  have hwl : (wordsB t).length ≤ 100001 := by rw [← count_words]; have := count_le t; omega
  obtain ⟨⟨a1, a2, a3⟩, hG⟩ : ∃ r, lineT t x = r := ⟨_, rfl⟩
  have HG := Lib.hid hG; clear hG
  have q1 : (!(a1.toList == a1.toList)) = false := by simp
  have q1' : (a1.toList == a1.toList) = true := by simp
  have q2 : ((a2 : Int) != (a2 : Int)) = false := by simp
  have q3 : ((a3 : Int) != (a3 : Int)) = false := by simp
  rcases h with ⟨h, rfl⟩ | ⟨h, rfl⟩
  · have c1 : decide ((2000 : Int) < (t.size : Int)) = false := by simp; omega
    go_enter Tryd.func10, Tryd.ntmps10
    go_wp2_with fail
    refine (octet_Line t x _ hts2).mono ?_
    rintro e w' ⟨rfl, rfl⟩
    rw [HG.out]
    unfold lineV
    go_wp2_with fail
    refine (ref_Line t x _ hts2).mono ?_
    rintro e w' ⟨rfl, rfl⟩
    rw [HG.out]
    unfold lineV
    go_wp2_with fail
    refine (octet_Words t m _ hts3 HM.out).mono ?_
    rintro e w1 ⟨va, rfl, hOa, hK1⟩
    go_wp2_with fail
    refine (ref_Words t _ hts3).mono ?_
    rintro e w2 ⟨vb, rfl, hOb, hK2⟩
    have hKw2 : Kp (fun _ => False) w w2 := hK1.trans hK2 (fun _ _ h => h)
    have hOa2 := hOa.kp hK2 (fun _ _ h => h)
    clear hOa hK1 hK2
    obtain ⟨pa, ca, rfl, _, _, _, hra⟩ := hOa2.form
    obtain ⟨pb, cb, rfl, _, _, _, hrb⟩ := hOb.form
    clear hOa2 hOb
    rw [strs_length]
    go_wp2_with fail
    refine (ref_Strings pa pb _ ca cb (wordsB t) _ hra hrb rfl (by omega)).mono ?_
    rintro e w3 ⟨rfl, n3, hw3⟩
    have hKw3 : Kp (fun _ => False) w w3 := by rw [hw3]; exact hKw2.drewN _
    have hra3 : RowAt w3 pa (strs (wordsB t)) := by rw [hw3]; exact hra.drewN _
    clear hw3 hKw2 hra hrb
    obtain ⟨n, hn⟩ : ∃ n, (wordsB t).length = n := ⟨_, rfl⟩
    rw [hn] at hwl ⊢
    have HNN := Lib.hid hn; clear hn
    go_wp2_with fail
    go_loop [12, 13] (fun v i => ∃ (k : Nat) (S : ByteArray), k ≤ n ∧ i = .int .i64 k ∧ v = .string S ∧ S.data.toList = jn ((wordsF t.data.toList).take k)) (fun _ i => n - (intOf i).toNat)
    case atStart => exact ⟨0, _, Nat.zero_le _, rfl, rfl, rfl⟩
    case round =>
      obtain ⟨k, S, hk, rfl, rfl, hS⟩ := hrel
      by_cases hlt : k < n
      · have hd : decide ((k : Int) < (n : Int)) = true := by simp; omega
        have hlt' : k < (wordsB t).length := by rw [HNN.out]; exact hlt
        obtain ⟨b, off, rfl, hc⟩ := hra3 k _ (sa_at hlt')
        have hsz : (sa (wordsB t) k).size ≤ 100000 := sa_size hlt' (by omega)
        obtain ⟨A, hA⟩ : ∃ A, sa (wordsB t) k = A := ⟨_, rfl⟩
        have hSz := of_jn hS
        by_cases h0 : 0 < k
        · have hp : decide ((0 : Int) < (k : Int)) = true := by simp; omega
          have HJ := Lib.hid (jn_at h0 hlt' hS)
          rw [hA] at hsz HJ hc
          have HS := Lib.hid hS; clear hS
          have c2 : ¬ 9223372036854775807 < S.size + 1 := by omega
          have c3 : ¬ 9223372036854775807 < S.size + 1 + A.size := by omega
          clear hA hlt'
          go_wp2_with fail
          refine ⟨⟨k + 1, _, by omega, by simp, rfl, HJ.out⟩, ?_⟩
          simp [intOf]; omega
        · have hp : decide ((0 : Int) < (k : Int)) = false := by simp; omega
          have HJ := Lib.hid (jn_at0 h0 hlt' hS)
          rw [hA] at hsz HJ hc
          have HS := Lib.hid hS; clear hS
          have c3 : ¬ 9223372036854775807 < S.size + A.size := by omega
          clear hA hlt'
          go_wp2_with fail
          refine ⟨⟨k + 1, _, by omega, by simp, rfl, HJ.out⟩, ?_⟩
          simp [intOf]; omega
      · have hd : decide ((k : Int) < (n : Int)) = false := by simp; omega
        have hSt := jn_all (by rw [HNN.out]; omega) hS
        subst hSt
        clear hS
        have q1 : (S.toList == S.toList) = true := by simp
        go_wp2_with fail
        refine (oct_lives _ (HT.out.kp hKw3)).mono ?_
        rintro e w4 ⟨rfl, hK4⟩
        go_wp2_with fail
        go_ret
        exact ⟨rfl, Kp.below (hKw3.trans hK4 (fun _ _ h => h)) (Nat.le_refl _) (fun _ _ h => h)⟩
  · have c1 : decide ((2000 : Int) < (s.size : Int)) = true := by simp; omega
    go_enter Tryd.func10, Tryd.ntmps10
    go_wp2_with fail
    generalize s.extract 0 2000 = t at *
    refine (octet_Line t x _ hts2).mono ?_
    rintro e w' ⟨rfl, rfl⟩
    rw [HG.out]
    unfold lineV
    go_wp2_with fail
    refine (ref_Line t x _ hts2).mono ?_
    rintro e w' ⟨rfl, rfl⟩
    rw [HG.out]
    unfold lineV
    go_wp2_with fail
    refine (octet_Words t m _ hts3 HM.out).mono ?_
    rintro e w1 ⟨va, rfl, hOa, hK1⟩
    go_wp2_with fail
    refine (ref_Words t _ hts3).mono ?_
    rintro e w2 ⟨vb, rfl, hOb, hK2⟩
    have hKw2 : Kp (fun _ => False) w w2 := hK1.trans hK2 (fun _ _ h => h)
    have hOa2 := hOa.kp hK2 (fun _ _ h => h)
    clear hOa hK1 hK2
    obtain ⟨pa, ca, rfl, _, _, _, hra⟩ := hOa2.form
    obtain ⟨pb, cb, rfl, _, _, _, hrb⟩ := hOb.form
    clear hOa2 hOb
    rw [strs_length]
    go_wp2_with fail
    refine (ref_Strings pa pb _ ca cb (wordsB t) _ hra hrb rfl (by omega)).mono ?_
    rintro e w3 ⟨rfl, n3, hw3⟩
    have hKw3 : Kp (fun _ => False) w w3 := by rw [hw3]; exact hKw2.drewN _
    have hra3 : RowAt w3 pa (strs (wordsB t)) := by rw [hw3]; exact hra.drewN _
    clear hw3 hKw2 hra hrb
    obtain ⟨n, hn⟩ : ∃ n, (wordsB t).length = n := ⟨_, rfl⟩
    rw [hn] at hwl ⊢
    have HNN := Lib.hid hn; clear hn
    go_wp2_with fail
    go_loop [12, 13] (fun v i => ∃ (k : Nat) (S : ByteArray), k ≤ n ∧ i = .int .i64 k ∧ v = .string S ∧ S.data.toList = jn ((wordsF t.data.toList).take k)) (fun _ i => n - (intOf i).toNat)
    case atStart => exact ⟨0, _, Nat.zero_le _, rfl, rfl, rfl⟩
    case round =>
      obtain ⟨k, S, hk, rfl, rfl, hS⟩ := hrel
      by_cases hlt : k < n
      · have hd : decide ((k : Int) < (n : Int)) = true := by simp; omega
        have hlt' : k < (wordsB t).length := by rw [HNN.out]; exact hlt
        obtain ⟨b, off, rfl, hc⟩ := hra3 k _ (sa_at hlt')
        have hsz : (sa (wordsB t) k).size ≤ 100000 := sa_size hlt' (by omega)
        obtain ⟨A, hA⟩ : ∃ A, sa (wordsB t) k = A := ⟨_, rfl⟩
        have hSz := of_jn hS
        by_cases h0 : 0 < k
        · have hp : decide ((0 : Int) < (k : Int)) = true := by simp; omega
          have HJ := Lib.hid (jn_at h0 hlt' hS)
          rw [hA] at hsz HJ hc
          have HS := Lib.hid hS; clear hS
          have c2 : ¬ 9223372036854775807 < S.size + 1 := by omega
          have c3 : ¬ 9223372036854775807 < S.size + 1 + A.size := by omega
          clear hA hlt'
          go_wp2_with fail
          refine ⟨⟨k + 1, _, by omega, by simp, rfl, HJ.out⟩, ?_⟩
          simp [intOf]; omega
        · have hp : decide ((0 : Int) < (k : Int)) = false := by simp; omega
          have HJ := Lib.hid (jn_at0 h0 hlt' hS)
          rw [hA] at hsz HJ hc
          have HS := Lib.hid hS; clear hS
          have c3 : ¬ 9223372036854775807 < S.size + A.size := by omega
          clear hA hlt'
          go_wp2_with fail
          refine ⟨⟨k + 1, _, by omega, by simp, rfl, HJ.out⟩, ?_⟩
          simp [intOf]; omega
      · have hd : decide ((k : Int) < (n : Int)) = false := by simp; omega
        have hSt := jn_all (by rw [HNN.out]; omega) hS
        subst hSt
        clear hS
        have q1 : (S.toList == S.toList) = true := by simp
        go_wp2_with fail
        refine (oct_lives _ (HT.out.kp hKw3)).mono ?_
        rintro e w4 ⟨rfl, hK4⟩
        go_wp2_with fail
        go_ret
        exact ⟨rfl, Kp.below (hKw3.trans hK4 (fun _ _ h => h)) (Nat.le_refl _) (fun _ _ h => h)⟩

theorem octetLines_walk (s : ByteArray) (_hs : s.size ≤ maxLen) (x : Int) (_wx : (Lit.int .i64 x).wf = true) (w : World) (ht : Tab w) (hm : ∃ m, w.cell? ⟨0, 0, none⟩ = some (.int .i64 m)) :
    Calls Tryd.prog 10 #[.string s, .int .i64 x] w fun e w' => e = .returned (.bool true) ∧ Below w.heap.size w w' := by
  by_cases h : s.size ≤ 2000
  · exact octetLines_in s x w s ht hm (.inl ⟨h, rfl⟩)
  · exact octetLines_in s x w _ ht hm (.inr ⟨by omega, rfl⟩)

end Go.Proofs.YtojodmfkenfhlaaDoor
