/-
  latchetlaw28.DerivReads: its walk.
-/
import Derived.Test.YtcpgbgbhfkpehaaDoorDerivLives
import Derived.Test.YtcpgbgbhfkpehaaDoorDerivRef2
import Derived.Test.YtcpgbgbhfkpehaaDoorDerivLongPlain
namespace Go.Proofs.YtcpgbgbhfkpehaaDoor
open Go.RowKit

theorem derivR_bad {s : ByteArray} : ∀ (f : Nat) (L : List (Bool × List Nat)) (p n : Nat), (derivR s f L p n).e ≠ 0 → (derivR s f L p n).l = []
  | 0, L, p, n, h => by simp [derivR] at h
  | f + 1, L, p, n, h => by
    unfold derivR at h ⊢
    by_cases c1 : s.size ≤ p
    · rw [if_pos c1] at h; simp at h
    rw [if_neg c1] at h ⊢
    by_cases c2 : (lineT s (p : Nat)).2.2 ≠ 0
    · rw [if_pos c2]
    rw [if_neg c2] at h ⊢
    cases hl : lineR (lineT s (p : Nat)).1 with
    | none => rfl
    | some x =>
      rw [hl] at h
      exact derivR_bad f _ _ _ h

theorem derivT_bad {s : ByteArray} (h : (derivT s).e ≠ 0) : (derivT s).l = [] := by
  unfold derivT at h ⊢
  split
  · rfl
  · rename_i c
    rw [if_neg c] at h
    exact derivR_bad _ _ _ _ h

theorem lines_len (L : List (Bool × List (List UInt8))) : L.length ≤ (linesText L).length := by
  induction L with
  | nil => simp
  | cons x L ih =>
    have e : (linesText (x :: L)).length = (lineText x.1 x.2).length + 1 + (linesText L).length := by simp [linesText]; omega
    rw [e, List.length_cons]; omega

theorem flat_len (c : List (List UInt8)) : c.length ≤ (c.flatMap (fun x => 32 :: x)).length := by
  induction c with
  | nil => simp
  | cons x c ih =>
    rw [List.flatMap_cons, List.length_append, List.length_cons, List.length_cons]; omega

theorem lines_clause {L : List (Bool × List (List UInt8))} {x : Bool × List (List UInt8)} (h : x ∈ L) : x.2.length ≤ (linesText L).length := by
  induction L with
  | nil => cases h
  | cons y L ih =>
    have e : (linesText (y :: L)).length = (lineText y.1 y.2).length + 1 + (linesText L).length := by simp [linesText]; omega
    rw [e]
    rcases List.mem_cons.1 h with rfl | h
    · have := flat_len x.2
      unfold lineText
      rw [List.length_cons]; omega
    · have := ih h; omega

theorem toI_mem {L : List (Bool × List Nat)} {x : Bool × List Int} (h : x ∈ toI L) : (x.1, x.2.map litText) ∈ lti (toI L) := List.mem_map.2 ⟨x, h, rfl⟩

/-- what a good text's lines are written as -/
theorem back_write {t : ByteArray} {L : List (Bool × List Nat)} {n : Nat} (hT : derivT t = ⟨L, n, 0⟩) (hz : t.size ≤ 100000) :
    linesText (lti (toI L)) = t.data.toList ∧ (toI L).length ≤ 100000 ∧ (linesText (lti (toI L))).length ≤ 100000 ∧ ∀ x ∈ toI L, x.2.length ≤ 100000 := by
  have h := derivT_back (s := t) (by rw [hT])
  rw [hT] at h
  simp only at h
  have e : linesText (lti (toI L)) = t.data.toList := by rw [lti_toI h.2, h.1]
  have hl : (linesText (lti (toI L))).length ≤ 100000 := by rw [e, list_size]; exact hz
  refine ⟨e, ?_, hl, ?_⟩
  · have := lines_len (lti (toI L))
    rw [show (lti (toI L)).length = (toI L).length by simp [lti]] at this
    omega
  · intro x hx
    have := lines_clause (toI_mem hx)
    rw [List.length_map] at this
    omega

set_option maxRecDepth 100000 in
set_option maxHeartbeats 8000000 in
theorem derivReads_in (s : ByteArray) (w : World) (t : ByteArray) (ht : Tab w) (hm : ML w) (h : s.size ≤ 2000 ∧ t = s ∨ (2000 < s.size ∧ s.size ≤ 1048576) ∧ t = s.extract 0 2000 ∨ 1048576 < s.size ∧ t = s) :
    Calls Tryd.prog 8 #[.string s] w fun e w' => e = .returned (.bool true) ∧ Below w.heap.size w w' := by
  have HT := Lib.hid ht; clear ht
  have HM := Lib.hid hm; clear hm
  have hz : t.size ≤ 2000 ∨ 1048576 < t.size := by
    rcases h with ⟨h1, rfl⟩ | ⟨h1, rfl⟩ | ⟨h1, rfl⟩
    · exact .inl h1
    · left; rw [ByteArray.size_extract]; omega
    · exact .inr h1
  have HRd : Hid (∀ u, ML u → Calls Tryd.prog 42 #[.string t] u (DReadP (derivT t) u)) := by
    intro u hu
    rcases hz with hz | hz
    · exact deriv_Read_in t u (by omega) (fun p hp => Nat.le_trans (lineT_size hp) (by omega)) hu
    · exact deriv_Read_long t u hz
  have HRf : Hid (∀ u, Calls Tryd.prog 43 #[.string t] u (DReadP (derivT t) u)) := by
    intro u
    rcases hz with hz | hz
    · exact ref28_Read_in t u (by omega) (fun p hp => Nat.le_trans (lineT_size hp) (by omega))
    · exact ref28_Read_long t u hz
  obtain ⟨L, n, e, hR⟩ : ∃ L n e, derivT t = ⟨L, n, e⟩ := ⟨_, _, _, rfl⟩
  have HB : Hid (e ≠ 0 → L = []) := by
    intro he
    have := derivT_bad (s := t) (by rw [hR]; exact he)
    rw [hR] at this; exact this
  have HG : Hid (e = 0 → linesText (lti (toI L)) = t.data.toList ∧ (toI L).length ≤ 100000 ∧ (linesText (lti (toI L))).length ≤ 100000 ∧ ∀ x ∈ toI L, x.2.length ≤ 100000) := by
    intro he
    rcases hz with hz | hz
    · exact back_write (by rw [hR, he]) (by omega)
    · rw [long_over hz] at hR
      injection hR with h1 h2 h3
      omega
  rw [hR] at HRd HRf
  clear hR hz
  have hN : (toI L).length ≤ 100000 := by
    by_cases he : e = 0
    · exact (HG.out he).2.1
    · rw [HB.out he]; simp [toI]
  have q1 : ((n : Int) == (n : Int)) = true := by simp
  have q2 : ((e : Int) == (e : Int)) = true := by simp
  have q3 : (t.toList == t.toList) = true := by simp
  have HC : Hid ((e = 0 ∧ ((e : Int) != 0) = false) ∨ (((e : Int) != 0) = true)) := by
    by_cases he : e = 0
    · exact .inl ⟨he, by simp [he]⟩
    · exact .inr (by simp; omega)
  have HL : Hid (∀ u, Tab u → ML u → Calls Tryd.prog 46 #[] u fun e w' => e = .returned (.bool true) ∧ Kp (fun _ => False) u w') := fun u h1 h2 => deriv_lives u h1 h2
  have HWr : Hid (∀ a c u, e = 0 → LnsAt u a (toI L) → Tab u → Calls Tryd.prog 45 #[.slice a (toI L).length c] u fun e w' => e = .returned (.string t) ∧ Kp (fun _ => False) u w') := by
    intro a c u he hr ht
    obtain ⟨g1, g2, g3, g4⟩ := HG.out he
    have := deriv_Write a c (toI L) _ u hr rfl (by omega) (by omega) g4 ht
    rw [g1, mk_data] at this
    exact this
  have HSm : Hid (∀ a a' c c' u, LnsAt u a (toI L) → LnsAt u a' (toI L) → Calls Tryd.prog 44 #[.slice a (toI L).length c, .slice a' (toI L).length c'] u fun e w' => e = .returned (.bool true) ∧ ∃ q, w' = u.drewN q) :=
    fun a a' c c' u h1 h2 => ref28_Same a a' c c' (toI L) _ u h1 h2 rfl (by omega)
  obtain ⟨N, hNN⟩ : ∃ N, (toI L).length = N := ⟨_, rfl⟩
  have HNN := Lib.hid hNN
  rw [hNN] at HWr HSm
  clear hNN hN HB HG
  rcases HC.out with ⟨he, b1⟩ | b1 <;> rcases h with ⟨h1, ht⟩ | ⟨⟨h1, h2⟩, ht⟩ | ⟨h1, ht⟩
  case' inl.inl => have g1 : decide ((2000 : Int) < (s.size : Int)) = false := by simp; omega
  case' inr.inl => have g1 : decide ((2000 : Int) < (s.size : Int)) = false := by simp; omega
  case' inl.inr.inl =>
    have g1 : decide ((2000 : Int) < (s.size : Int)) = true := by simp; omega
    have g2 : decide ((s.size : Int) ≤ 1048576) = true := by simp; omega
    have g3 : (2000 : Int) ≤ (s.size : Int) := by omega
  case' inr.inr.inl =>
    have g1 : decide ((2000 : Int) < (s.size : Int)) = true := by simp; omega
    have g2 : decide ((s.size : Int) ≤ 1048576) = true := by simp; omega
    have g3 : (2000 : Int) ≤ (s.size : Int) := by omega
  case' inl.inr.inr =>
    have g1 : decide ((2000 : Int) < (s.size : Int)) = true := by simp; omega
    have g2 : decide ((s.size : Int) ≤ 1048576) = false := by simp; omega
  case' inr.inr.inr =>
    have g1 : decide ((2000 : Int) < (s.size : Int)) = true := by simp; omega
    have g2 : decide ((s.size : Int) ≤ 1048576) = false := by simp; omega
  all_goals
    have HEQ := Lib.hid ht.symm; clear ht
    have HE0 : Hid (((e : Int) != 0) = false → e = 0) := by intro h; simpa using h
    go_enter Tryd.func8, Tryd.ntmps8
    go_wp2_with fail
    rw [HEQ.out]
    go_wp2_with fail
    refine (HRd.out _ HM.out).mono ?_
    rintro e2 w2 ⟨v, rs, rfl, hO, hLn, hK⟩
    obtain ⟨a, c, rfl, _⟩ := hO.form
    obtain ⟨hA, hmm⟩ := LnsAt.of hO hLn
    rw [hmm, HNN.out]
    have HA := Lib.hid hA
    have HK := Lib.hid hK
    clear hO hLn hA hmm hK
    go_wp2_with fail
    refine (HRf.out _).mono ?_
    rintro e3 w3 ⟨v, rs', rfl, hO, hLn, hK⟩
    obtain ⟨a', c', rfl, _⟩ := hO.form
    obtain ⟨hA', hmm⟩ := LnsAt.of hO hLn
    rw [hmm, HNN.out]
    have HA3 := Lib.hid (HA.out.kp hK)
    have HA3' := Lib.hid hA'
    have HK3 := Lib.hid (HK.out.trans hK (fun _ _ h => h))
    clear hO hLn hA' hmm hK
    go_wp2_with fail
    refine (HSm.out _ _ _ _ _ HA3.out HA3'.out).mono ?_
    rintro e4 w4 ⟨rfl, q, rfl⟩
    have HK4 := Lib.hid (HK3.out.drewN q)
    have HA4 := Lib.hid (HA3.out.drewN q)
    go_wp2_with fail
  all_goals
    first
      | (refine (HWr.out _ _ _ (by assumption) HA4.out (HT.out.kp HK4.out)).mono ?_
         rintro e5 w5 ⟨rfl, hK5⟩
         have HK5 := Lib.hid (HK4.out.trans hK5 (fun _ _ h => h))
         clear hK5
         go_wp2_with fail
         refine (HL.out _ (HT.out.kp HK5.out) (HM.out.kp HK5.out)).mono ?_
         rintro e6 w6 ⟨rfl, hK6⟩
         have hend := (HK5.out.trans hK6 (fun _ _ h => h)).below (Nat.le_refl _) (fun _ _ h => h)
         go_wp2_with fail
         go_ret
         exact ⟨rfl, hend⟩)
      | (refine (HL.out _ (HT.out.kp HK4.out) (HM.out.kp HK4.out)).mono ?_
         rintro e6 w6 ⟨rfl, hK6⟩
         have hend := (HK4.out.trans hK6 (fun _ _ h => h)).below (Nat.le_refl _) (fun _ _ h => h)
         go_wp2_with fail
         go_ret
         exact ⟨rfl, hend⟩)

theorem derivReads_walk (s : ByteArray) (_hs : s.size ≤ maxLen) (w : World) (ht : Tab w) (hm : ML w) :
    Calls Tryd.prog 8 #[.string s] w fun e w' => e = .returned (.bool true) ∧ Below w.heap.size w w' := by
  by_cases h1 : s.size ≤ 2000
  · exact derivReads_in s w s ht hm (.inl ⟨h1, rfl⟩)
  · by_cases h2 : s.size ≤ 1048576
    · exact derivReads_in s w _ ht hm (.inr (.inl ⟨⟨by omega, h2⟩, rfl⟩))
    · exact derivReads_in s w s ht hm (.inr (.inr ⟨by omega, rfl⟩))

end Go.Proofs.YtcpgbgbhfkpehaaDoor
