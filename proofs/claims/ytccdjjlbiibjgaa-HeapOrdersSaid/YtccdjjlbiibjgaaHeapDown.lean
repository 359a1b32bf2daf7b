/-
  heap.down: a thing sinks.
-/
import Derived.Test.YtccdjjlbiibjgaaHeapUp
namespace Go.Proofs.Ytccdjjlbiibjgaa
open Go.RowKit

theorem Ord.trans {A : Nat → Nat → Prop} (hA : Ord A) {a b c : Nat} (h1 : A a b) (h2 : A b c) : A a c := by
  apply Classical.byContradiction
  intro h
  exact hA.neg (hA.asym h2) h h1

/-- what the inner loop knows: f is the first of place i and those below it, ahead of k -/
structure Fst (A : Nat → Nat → Prop) (T : Nat → Nat) (m i f k : Nat) : Prop where
  lt : f < m
  at_ : f = i ∨ (0 < f ∧ (f - 1) / 2 = i ∧ A (T f) (T i))
  none : ∀ j, 0 < j → j < m → (j - 1) / 2 = i → j < k → ¬ A (T j) (T f)

theorem Fst.start {A : Nat → Nat → Prop} {T : Nat → Nat} {m i : Nat} (hi : i < m) : Fst A T m i i (2 * i + 1) :=
  ⟨hi, .inl rfl, fun j h0 hj h1 h2 => by omega⟩

theorem Fst.yes {A : Nat → Nat → Prop} (hA : Ord A) {T : Nat → Nat} {m i f k : Nat} (h : Fst A T m i f k) (hk : k < m) (hk1 : 2 * i + 1 ≤ k) (hk2 : k ≤ 2 * i + 2) (ha : A (T k) (T f)) : Fst A T m i k (k + 1) := by
  refine ⟨hk, .inr ⟨by omega, by omega, ?_⟩, fun j h0 hj h1 h2 => ?_⟩
  · rcases h.at_ with rfl | ⟨_, _, h3⟩
    · exact ha
    · exact hA.trans ha h3
  · by_cases e : j = k
    · subst e; exact hA.irr
    · exact hA.neg (hA.asym ha) (h.none j h0 hj h1 (by omega))

theorem Fst.no {A : Nat → Nat → Prop} {T : Nat → Nat} {m i f k : Nat} (h : Fst A T m i f k) (ha : ¬ A (T k) (T f)) : Fst A T m i f (k + 1) := by
  refine ⟨h.lt, h.at_, fun j h0 hj h1 h2 => ?_⟩
  by_cases e : j = k
  · subst e; exact ha
  · exact h.none j h0 hj h1 (by omega)

theorem Fst.end_ {A : Nat → Nat → Prop} {T : Nat → Nat} {m i f k : Nat} (h : Fst A T m i f k) (hk : m ≤ k ∨ 2 * i + 2 < k) : ∀ j, 0 < j → j < m → (j - 1) / 2 = i → ¬ A (T j) (T f) :=
  fun j h0 hj h1 => h.none j h0 hj h1 (by omega)

set_option maxRecDepth 100000 in
set_option maxHeartbeats 2000000 in
theorem heap_down {w : World} {base h n m : Nat} {vs vt va : Value} {S T : Nat → Nat} {Q : Nat → Int} (H : Hp w base h vs vt va n m S T Q) (hI : Inv n m T Q) (hn : n ≤ 1048576) (hm : m ≤ 1048576) {i : Nat} (hi : i < m) (hW : Weak (ah S) T m i) (hU : UpOK (ah S) T i) :
    Calls Try.prog 19 #[.pointer (some ⟨h, 0, none⟩), .int .i64 i] w fun e w' =>
      e = .returned (.tuple #[]) ∧ ∃ (T' : Nat → Nat) (Q' : Nat → Int), Hp w' base h vs vt va n m S T' Q' ∧ Inv n m T' Q' ∧ Sub T' m T m ∧ HeapOK (ah S) T' m ∧ Kp (fun j => base ≤ j) w w' := by
  have HI0 := Lib.hid hI; clear hI
  have HW0 := Lib.hid (And.intro hW hU); clear hW hU
  go_enter Try.func19, Try.ntmps19
  go_wp2_with fail
  go_loopw [1] (fun v1 wr => ∃ (i : Nat) (T1 : Nat → Nat) (Q1 : Nat → Int), v1 = .int .i64 i ∧ i < m ∧ Hp wr base h vs vt va n m S T1 Q1 ∧ Inv n m T1 Q1 ∧ Sub T1 m T m ∧ Weak (ah S) T1 m i ∧ UpOK (ah S) T1 i ∧ Kp (fun j => base ≤ j) w wr) (fun v1 _ => m - (intOf v1).toNat)
  case atStart => exact ⟨i, T, Q, rfl, hi, H, HI0.out, Sub.refl _ _, HW0.out.1, HW0.out.2, Kp.refl _ _⟩
  case round =>
    clear H HI0 HW0 hi
    obtain ⟨i, T1, Q1, rfl, hi, H, hI, hSub, hW, hU, hK⟩ := hrel
    have HX := Lib.hid (And.intro hI (And.intro hSub (And.intro hW hU))); clear hI hSub hW hU
    have HH := Lib.hid H
    have HK := Lib.hid hK; clear hK
    obtain ⟨gt, ct, hvt, hgt, _⟩ := H.t.leads (by rw [nts_length]; omega)
    rw [nts_length] at hvt
    have HT := H.t
    rw [hvt] at HT
    have c1 : wr.cell? ⟨h, 1, none⟩ = some (.slice (some ⟨gt, 0, none⟩) m ct) := by rw [← hvt]; exact H.blk.cell (i := 1) rfl
    clear H
    have HC := Lib.hid (show ∀ k, k < m → wr.cell? ⟨gt, k, none⟩ = some (.int .i64 (T1 k : Int)) from fun k hk => HT.cell (nts_at hk))
    clear HT hvt hgt
    go_wp2_with fail
    obtain ⟨wo, rfl⟩ : ∃ wo : World, wo = wr := ⟨_, rfl⟩
    go_loopw [4, 5] (fun v4 v5 wr => ∃ f k q : Nat, v4 = .int .i64 f ∧ v5 = .int .i64 k ∧ 2 * i + 1 ≤ k ∧ k ≤ 2 * i + 3 ∧ Fst (ah S) T1 m i f k ∧ wr = wo.drewN q) (fun _ v5 _ => 2 * i + 3 - (intOf v5).toNat)
    case atStart => exact ⟨i, 2 * i + 1, 0, rfl, by simp, Nat.le_refl _, by omega, Fst.start hi, rfl⟩
    case round =>
      obtain ⟨f, k, q, rfl, rfl, hk1, hk3, hF, hwr⟩ := hrel
      have HHq := Lib.hid (show Hp wr base h vs vt va n m S T1 Q1 by rw [hwr]; exact HH.out.drewN q)
      have HKq := Lib.hid (show Kp (fun j => base ≤ j) w wr by rw [hwr]; exact HK.out.drewN q)
      have c1 : wr.cell? ⟨h, 1, none⟩ = some (.slice (some ⟨gt, 0, none⟩) m ct) := by rw [hwr]; exact c1
      have HC := Lib.hid (show ∀ k, k < m → wr.cell? ⟨gt, k, none⟩ = some (.int .i64 (T1 k : Int)) by rw [hwr]; exact HC.out)
      have HWR := Lib.hid hwr; clear hwr
      have hfm := hF.lt
      have HF := Lib.hid hF; clear hF
      by_cases h1 : k ≤ 2 * i + 2 ∧ k < m
      · have g1 : decide ((k : Int) ≤ 2 * (i : Int) + 2) = true := by simp; omega
        have g2 : decide ((k : Int) < (m : Int)) = true := by simp; omega
        obtain ⟨h1, h2⟩ := h1
        have hck := HC.out k h2
        have hcf := HC.out f hfm
        have k1 : (k : Int) < (m : Int) := by omega
        have k0 : (0 : Int) ≤ (k : Int) := by omega
        have f1 : (f : Int) < (m : Int) := by omega
        have f0 : (0 : Int) ≤ (f : Int) := by omega
        have ht1 := (HX.out.1.here k h2).1
        have ht2 := (HX.out.1.here f hfm).1
        by_cases ha : aheadB S (T1 k) (T1 f) = true
        · go_wp2_with fail
          go_quiet ((go_at_call 27; exact Calls.quiet_of (heap_ahead (HHq.out.drewN _) hn ht1 ht2)))
          rw [ha]
          go_wp2_with fail
          refine ⟨⟨k, k + 1, _, rfl, by simp, by omega, by omega, HF.out.yes (ah_ord S) h2 hk1 h1 ha, by rw [HWR.out]; exact World.drewN_drewN ..⟩, ?_⟩
          simp [intOf]; omega
        · have ha' : aheadB S (T1 k) (T1 f) = false := by simpa using ha
          go_wp2_with fail
          go_quiet ((go_at_call 27; exact Calls.quiet_of (heap_ahead (HHq.out.drewN _) hn ht1 ht2)))
          rw [ha']
          go_wp2_with fail
          refine ⟨⟨f, k + 1, _, rfl, by simp, by omega, by omega, HF.out.no ha, by rw [HWR.out]; exact World.drewN_drewN ..⟩, ?_⟩
          simp [intOf]; omega
      · have hE := HF.out.end_ (by omega)
        have HE := Lib.hid hE; clear hE
        have hg : decide ((k : Int) ≤ 2 * (i : Int) + 2) = false ∨ decide ((k : Int) ≤ 2 * (i : Int) + 2) = true ∧ decide (k < m) = false := by
          simp; omega
        by_cases e : f = i
        · subst e
          have q1 : ((f : Int) == (f : Int)) = true := by simp
          have hend : ∃ (T' : Nat → Nat) (Q' : Nat → Int), Hp wr base h vs vt va n m S T' Q' ∧ Inv n m T' Q' ∧ Sub T' m T m ∧ HeapOK (ah S) T' m ∧ Kp (fun j => base ≤ j) w wr :=
            ⟨T1, Q1, HHq.out, HX.out.1, HX.out.2.1, ok_of HX.out.2.2.1 HX.out.2.2.2 HE.out, HKq.out⟩
          have HEnd := Lib.hid hend; clear hend
          rcases hg with g1 | ⟨g1, g2⟩
          · go_wp2_with fail
            refine bodyPost_ret (results_none rfl _ _ _) rfl ?_
            exact ⟨rfl, HEnd.out⟩
          · go_wp2_with fail
            refine bodyPost_ret (results_none rfl _ _ _) rfl ?_
            exact ⟨rfl, HEnd.out⟩
        · have q1 : ((f : Int) == (i : Int)) = false := by simp; omega
          obtain ⟨hf0, hfp, hfa⟩ := HF.out.at_.resolve_left e
          have HS := Lib.hid (down_step (ah_ord S) HX.out.2.2.1 hf0 hfm hfp hfa HE.out)
          have HSI := Lib.hid (HX.out.1.swap hi hfm)
          clear hfa
          rcases hg with g1 | ⟨g1, g2⟩
          · go_wp2_with fail
            refine (heap_swap HHq.out HX.out.1 hn hm hi hfm).mono ?_
            rintro e w2 ⟨rfl, H2, hK2⟩
            go_wp2_with fail
            refine ⟨⟨f, _, _, rfl, hfm, H2, HSI.out, Sub.trans (Sub.sw hi hfm) HX.out.2.1, HS.out.1, HS.out.2, HKq.out.trans hK2 (fun _ _ h => h)⟩, ?_⟩
            simp [intOf]; omega
          · go_wp2_with fail
            refine (heap_swap HHq.out HX.out.1 hn hm hi hfm).mono ?_
            rintro e w2 ⟨rfl, H2, hK2⟩
            go_wp2_with fail
            refine ⟨⟨f, _, _, rfl, hfm, H2, HSI.out, Sub.trans (Sub.sw hi hfm) HX.out.2.1, HS.out.1, HS.out.2, HKq.out.trans hK2 (fun _ _ h => h)⟩, ?_⟩
            simp [intOf]; omega

theorem heap_down0 {w : World} {base h n : Nat} {vs vt va : Value} {S T : Nat → Nat} {Q : Nat → Int} (H : Hp w base h vs vt va n 0 S T Q) :
    Calls Try.prog 19 #[.pointer (some ⟨h, 0, none⟩), .int .i64 0] w fun e w' => e = .returned (.tuple #[]) ∧ w = w' := by
  obtain ⟨a, c, e, _⟩ := H.t.form
  rw [nts_length] at e
  subst e
  have c1 : w.cell? ⟨h, 1, none⟩ = some (.slice a 0 c) := H.blk.cell (i := 1) rfl
  clear H
  go_enter Try.func19, Try.ntmps19
  go_wp2_with fail
  refine wp_loop_rounds 1 ?_
  rw [rounds_succ]
  go_wp2_with fail
  refine wp_loop_rounds 1 ?_
  rw [rounds_succ]
  go_wp2_with fail
  refine bodyPost_ret (results_none rfl _ _ _) rfl ?_
  exact ⟨rfl, rfl⟩

end Go.Proofs.Ytccdjjlbiibjgaa
