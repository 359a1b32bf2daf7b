/-
  binary's reader of a text: step, digits, sign, delta, ended. (Printed by mkbintext.py.)
-/
import Derived.Test.YtckmdcmkjmpiaaaGreatDoorM1
import Derived.Maps.AppendAt
import Derived.Deep.AppendLies
import Derived.Orders
import Derived.RegionTactic
import Derived.ArgAppend
import Derived.StillTail
import Ieee.Arith
import Derived.Test.YtckmdcmkjmpiaaaGreatDoorRows
import Derived.BigRegion
import Derived.Deep.QuietTactic
import Derived.BigQuiet
import Derived.Deep.RegionHeld3
import Derived.Laws.Externs
set_option linter.unusedVariables false
set_option linter.unusedSimpArgs false
namespace Go.Proofs.YtckmdcmkjmpiaaaGreatDoor
open Go.RowKit Go.Shelf

/-- the reader, at p, with its error -/
def TX (w : World) (b : Nat) (s : ByteArray) (st : Nat × Nat) : Prop := Blk w b #[.string s, .int .i64 (st.1 : Nat), .int .i64 (st.2 : Nat)] 130
theorem TX.kp {w w' : World} {b : Nat} {s : ByteArray} {st : Nat × Nat} {S : Nat → Prop} (h : TX w b s st) (k : Kp S w w') (hb : ¬ S b) : TX w' b s st := Blk.kp h k hb
theorem TX.cells {w : World} {b : Nat} {s : ByteArray} {st : Nat × Nat} (h : TX w b s st) : w.cell? ⟨b, 0, none⟩ = some (.string s) ∧ w.cell? ⟨b, 1, none⟩ = some (.int .i64 (st.1 : Nat)) ∧ w.cell? ⟨b, 2, none⟩ = some (.int .i64 (st.2 : Nat)) ∧ w.frozen? ⟨b, 1, none⟩ = false ∧ w.frozen? ⟨b, 2, none⟩ = false :=
  ⟨h.cell rfl, h.cell rfl, h.cell rfl, Blk.free h 1, Blk.free h 2⟩

/-- what digits tells, and where the reader is then -/
def rdD (s : ByteArray) (top : Int) (st : Nat × Nat) : Nat × Nat × Nat :=
  if st.2 ≠ 0 then (0, st) else if (natN s st.1).2.2 ≠ 0 then (0, st.1, (natN s st.1).2.2) else if top < ((natN s st.1).1 : Int) then (0, st.1, 5) else ((natN s st.1).1, (natN s st.1).2.1, 0)
/-- what sign tells -/
def rdS (s : ByteArray) (ok : Nat → Bool) (st : Nat × Nat) : Nat × Nat × Nat :=
  if st.2 ≠ 0 then (0, st) else if st.1 = s.size then (0, st.1, 3) else if ok (bt s st.1) = false then (0, st.1, 2) else (bt s st.1, st.1 + 1, 0)
/-- what delta tells -/
def rdG (s : ByteArray) (least top : Int) (st : Nat × Nat) : Nat × Nat × Nat :=
  if st.2 ≠ 0 then (0, st) else if (getN s st.1).2.2 ≠ 0 then (0, st.1, (getN s st.1).2.2) else if ((getN s st.1).1 : Int) < least ∨ top < ((getN s st.1).1 : Int) then (0, st.1, 5) else ((getN s st.1).1, (getN s st.1).2.1, 0)

theorem getR_lt (s : ByteArray) (p : Nat) : ∀ (r k a : Nat), k + r = 5 → a < 128 ^ k → (getR s p r k a).1 < 4294967296
  | 0, k, a, _, _ => by simp [getR]
  | r + 1, k, a, hk, ha => by
    unfold getR
    by_cases c1 : p + k = s.size
    · rw [if_pos c1]; simp
    rw [if_neg c1]
    by_cases c2 : k = 4 ∧ 15 < bt s (p + k)
    · rw [if_pos c2]; simp
    rw [if_neg c2]
    by_cases c3 : 0 < k ∧ bt s (p + k) = 0
    · rw [if_pos c3]; simp
    rw [if_neg c3]
    have c2' : k ≠ 4 ∨ bt s (p + k) ≤ 15 := by omega
    clear c1 c2 c3
    generalize bt s (p + k) = x at c2' ⊢
    have hm : x % 128 < 128 := Nat.mod_lt _ (by decide)
    have hn : a + x % 128 * 128 ^ k < 128 ^ (k + 1) := by
      have h1 : x % 128 * 128 ^ k ≤ 127 * 128 ^ k := Nat.mul_le_mul_right _ (by omega)
      rw [Nat.pow_succ]; omega
    by_cases c4 : x < 128
    · rw [if_pos c4]
      show a + x % 128 * 128 ^ k < _
      have hk5 : k = 0 ∨ k = 1 ∨ k = 2 ∨ k = 3 ∨ k = 4 := by omega
      rcases hk5 with rfl | rfl | rfl | rfl | rfl <;> simp only [Nat.reducePow, Nat.reduceAdd] at * <;> omega
    · rw [if_neg c4]
      exact getR_lt s p r (k + 1) _ (by omega) hn

set_option maxRecDepth 100000 in
set_option maxHeartbeats 1000000 in
theorem bin_step_ok (s : ByteArray) (b p q : Nat) (w : World) (hB : TX w b s (p, 0)) :
    Calls Tryz.prog 147 #[.pointer (some ⟨b, 0, none⟩), .int .i64 (q : Nat), .int .i64 0] w fun e w' => e = .returned (.bool true) ∧ TX w' b s (q, 0) ∧ Kp (fun j => j = b) w w' := by
  obtain ⟨b0, b1, b2, f1, f2⟩ := hB.cells
  have HB := Lib.hid hB
  clear hB
  go_enter Tryz.func147, Tryz.ntmps147
  go_wp2_with fail
  go_ret
  exact ⟨rfl, Blk.set_same HB.out 1 _, (Kp.refl (fun j => j = b) w).setCell (p := ⟨b, 1, none⟩) (fun _ => rfl) _⟩

set_option maxRecDepth 100000 in
set_option maxHeartbeats 1000000 in
theorem bin_step_err (s : ByteArray) (b p e2 : Nat) (q : Int) (w : World) (h2 : e2 ≠ 0) (hB : TX w b s (p, 0)) :
    Calls Tryz.prog 147 #[.pointer (some ⟨b, 0, none⟩), .int .i64 q, .int .i64 (e2 : Nat)] w fun e w' => e = .returned (.bool false) ∧ TX w' b s (p, e2) ∧ Kp (fun j => j = b) w w' := by
  obtain ⟨b0, b1, b2, f1, f2⟩ := hB.cells
  have HB := Lib.hid hB
  have q2 : ((e2 : Int) == 0) = false := by rw [beq_eq_false_iff_ne]; omega
  have q3 : ((e2 : Int) != 0) = true := by simp [h2]
  clear hB h2
  go_enter Tryz.func147, Tryz.ntmps147
  go_wp2_with fail
  go_ret
  exact ⟨rfl, Blk.set_same HB.out 2 _, (Kp.refl (fun j => j = b) w).setCell (p := ⟨b, 2, none⟩) (fun _ => rfl) _⟩

set_option maxRecDepth 100000 in
set_option maxHeartbeats 1000000 in
theorem bin_step_stay (s : ByteArray) (b p e1 : Nat) (q e2 : Int) (w : World) (h1 : e1 ≠ 0) (hB : TX w b s (p, e1)) :
    Calls Tryz.prog 147 #[.pointer (some ⟨b, 0, none⟩), .int .i64 q, .int .i64 e2] w fun e w' => e = .returned (.bool false) ∧ TX w' b s (p, e1) ∧ Kp (fun j => j = b) w w' := by
  obtain ⟨b0, b1, b2, f1, f2⟩ := hB.cells
  have HB := Lib.hid hB
  have q2 : ((e1 : Int) == 0) = false := by rw [beq_eq_false_iff_ne]; omega
  have q3 : ((e1 : Int) != 0) = true := by simp [h1]
  clear hB h1
  go_enter Tryz.func147, Tryz.ntmps147
  go_wp2_with fail
  go_ret
  exact ⟨rfl, HB.out, Kp.refl _ _⟩

set_option maxRecDepth 100000 in
set_option maxHeartbeats 1000000 in
theorem bin_ended (s : ByteArray) (b : Nat) (st : Nat × Nat) (w : World) (hB : TX w b s st) :
    Calls Tryz.prog 70 #[.pointer (some ⟨b, 0, none⟩)] w fun e w' => e = .returned (.tuple #[.int .i64 (st.1 : Nat), .int .i64 (st.2 : Nat)]) ∧ Kp (fun _ => False) w w' := by
  obtain ⟨b0, b1, b2, f1, f2⟩ := hB.cells
  clear hB
  go_enter Tryz.func70, Tryz.ntmps70
  go_upto_region 1 with fail
  go_quiet (fail)
  go_wp2_with fail
  go_ret2
  exact ⟨rfl, (Kp.refl _ _).drewN _⟩

set_option maxRecDepth 100000 in
set_option maxHeartbeats 4000000 in
theorem bin_digits (s : ByteArray) (b p e1 : Nat) (top : Int) (w : World) (hs : s.size ≤ 1000000) (hp : p ≤ s.size) (hB : TX w b s (p, e1)) :
    Calls Tryz.prog 144 #[.pointer (some ⟨b, 0, none⟩), .int .i64 top] w fun e w' => e = .returned (.int .i64 ((rdD s top (p, e1)).1 : Nat)) ∧ TX w' b s (rdD s top (p, e1)).2 ∧ Kp (fun j => j = b) w w' := by
  obtain ⟨F, hF1, hF2⟩ := still_class w
  have HF1 := Lib.hid hF1
  have HF2 := Lib.hid hF2
  have HB := Lib.hid hB
  have m0 : ∀ y, (F y).cell? ⟨b, 0, none⟩ = some (.string s) := fun y => ((HB.out.kp (HF1.out y) (fun h => h)).cells).1
  have m1 : ∀ y, (F y).cell? ⟨b, 1, none⟩ = some (.int .i64 (p : Nat)) := fun y => ((HB.out.kp (HF1.out y) (fun h => h)).cells).2.1
  have HW := Lib.hid (fun y => octet_Nat_in s p (F y) (by omega) hp)
  obtain ⟨n, q, e2, hN⟩ : ∃ n q e2, natN s p = (n, q, e2) := ⟨_, _, _, rfl⟩
  obtain ⟨rr, hrr⟩ : ∃ rr, (rdD s top (p, e1)) = rr := ⟨_, rfl⟩
  rw [hrr]
  have hR := hrr
  unfold rdD at hR
  simp only at hR
  rw [hN] at hR HW
  simp only at hR
  unfold tripI at HW
  clear hF1 hF2 hB hrr
  by_cases he : e1 = 0
  · subst he
    rw [if_neg (by simp)] at hR
    by_cases h2 : e2 = 0
    · subst h2
      rw [if_neg (by simp)] at hR
      by_cases hg : top < (n : Int)
      · rw [if_pos hg] at hR
        subst hR
        have q0 : decide (top < (n : Int)) = true := decide_eq_true hg
        have HSt := Lib.hid (fun y => bin_step_err s b p 5 (q : Nat) (F y) (by decide) (HB.out.kp (HF1.out y) (fun h => h)))
        clear hN HB
        go_enter Tryz.func144, Tryz.ntmps144
        go_upto_region 1 with fail
        refine wp_region_kept (by kernel_rfl) (by kernel_rfl) HF2.out ?_
        repeat (go_big_quiet_step (with_reducible first | exact Calls.still_of HF1.out HF2.out (HW.out _)))
        refine wpQuiet_nil ?_
        rintro wB ⟨y, rfl⟩
        have HSy := Lib.hid (HSt.out y)
        clear m0 m1 HSt
        go_wp2_with (go_at_call 147; with_reducible refine Calls.mono HSy.out ?_; rintro e w1 ⟨rfl, hT, hK⟩)
        go_ret
        exact ⟨rfl, hT, ((HF1.out y).mono (fun _ _ h => h.elim)).trans hK (fun _ _ h => h)⟩
      · rw [if_neg hg] at hR
        subst hR
        have q0 : decide (top < (n : Int)) = false := decide_eq_false hg
        have HSt := Lib.hid (fun y => bin_step_ok s b p q (F y) (HB.out.kp (HF1.out y) (fun h => h)))
        clear hN HB
        go_enter Tryz.func144, Tryz.ntmps144
        go_upto_region 1 with fail
        refine wp_region_kept (by kernel_rfl) (by kernel_rfl) HF2.out ?_
        repeat (go_big_quiet_step (with_reducible first | exact Calls.still_of HF1.out HF2.out (HW.out _)))
        refine wpQuiet_nil ?_
        rintro wB ⟨y, rfl⟩
        have HSy := Lib.hid (HSt.out y)
        clear m0 m1 HSt
        go_wp2_with (go_at_call 147; with_reducible refine Calls.mono HSy.out ?_; rintro e w1 ⟨rfl, hT, hK⟩)
        go_ret
        exact ⟨rfl, hT, ((HF1.out y).mono (fun _ _ h => h.elim)).trans hK (fun _ _ h => h)⟩
    · rw [if_pos h2] at hR
      subst hR
      have q2 : ((e2 : Int) == 0) = false := by rw [beq_eq_false_iff_ne]; omega
      have HH2 := Lib.hid h2
      clear h2
      have HSt := Lib.hid (fun y => bin_step_err s b p e2 (q : Nat) (F y) HH2.out (HB.out.kp (HF1.out y) (fun h => h)))
      clear hN HB
      go_enter Tryz.func144, Tryz.ntmps144
      go_upto_region 1 with fail
      refine wp_region_kept (by kernel_rfl) (by kernel_rfl) HF2.out ?_
      repeat (go_big_quiet_step (with_reducible first | exact Calls.still_of HF1.out HF2.out (HW.out _)))
      refine wpQuiet_nil ?_
      rintro wB ⟨y, rfl⟩
      have HSy := Lib.hid (HSt.out y)
      clear m0 m1 HSt
      go_wp2_with (go_at_call 147; with_reducible refine Calls.mono HSy.out ?_; rintro e w1 ⟨rfl, hT, hK⟩)
      go_ret
      exact ⟨rfl, hT, ((HF1.out y).mono (fun _ _ h => h.elim)).trans hK (fun _ _ h => h)⟩
  · rw [if_pos he] at hR
    subst hR
    have HHe := Lib.hid he
    clear he
    by_cases h2 : e2 = 0
    · subst h2
      cases q0 : decide (top < (n : Int)) with
      | true =>
        have HSt := Lib.hid (fun y => bin_step_stay s b p e1 (q : Nat) 5 (F y) HHe.out (HB.out.kp (HF1.out y) (fun h => h)))
        clear hN HB
        go_enter Tryz.func144, Tryz.ntmps144
        go_upto_region 1 with fail
        refine wp_region_kept (by kernel_rfl) (by kernel_rfl) HF2.out ?_
        repeat (go_big_quiet_step (with_reducible first | exact Calls.still_of HF1.out HF2.out (HW.out _)))
        refine wpQuiet_nil ?_
        rintro wB ⟨y, rfl⟩
        have HSy := Lib.hid (HSt.out y)
        clear m0 m1 HSt
        go_wp2_with (go_at_call 147; with_reducible refine Calls.mono HSy.out ?_; rintro e w1 ⟨rfl, hT, hK⟩)
        go_ret
        exact ⟨rfl, hT, ((HF1.out y).mono (fun _ _ h => h.elim)).trans hK (fun _ _ h => h)⟩
      | false =>
        have HSt := Lib.hid (fun y => bin_step_stay s b p e1 (q : Nat) 0 (F y) HHe.out (HB.out.kp (HF1.out y) (fun h => h)))
        clear hN HB
        go_enter Tryz.func144, Tryz.ntmps144
        go_upto_region 1 with fail
        refine wp_region_kept (by kernel_rfl) (by kernel_rfl) HF2.out ?_
        repeat (go_big_quiet_step (with_reducible first | exact Calls.still_of HF1.out HF2.out (HW.out _)))
        refine wpQuiet_nil ?_
        rintro wB ⟨y, rfl⟩
        have HSy := Lib.hid (HSt.out y)
        clear m0 m1 HSt
        go_wp2_with (go_at_call 147; with_reducible refine Calls.mono HSy.out ?_; rintro e w1 ⟨rfl, hT, hK⟩)
        go_ret
        exact ⟨rfl, hT, ((HF1.out y).mono (fun _ _ h => h.elim)).trans hK (fun _ _ h => h)⟩
    · have q2 : ((e2 : Int) == 0) = false := by rw [beq_eq_false_iff_ne]; omega
      clear h2
      have HSt := Lib.hid (fun y => bin_step_stay s b p e1 (q : Nat) (e2 : Nat) (F y) HHe.out (HB.out.kp (HF1.out y) (fun h => h)))
      clear hN HB
      go_enter Tryz.func144, Tryz.ntmps144
      go_upto_region 1 with fail
      refine wp_region_kept (by kernel_rfl) (by kernel_rfl) HF2.out ?_
      repeat (go_big_quiet_step (with_reducible first | exact Calls.still_of HF1.out HF2.out (HW.out _)))
      refine wpQuiet_nil ?_
      rintro wB ⟨y, rfl⟩
      have HSy := Lib.hid (HSt.out y)
      clear m0 m1 HSt
      go_wp2_with (go_at_call 147; with_reducible refine Calls.mono HSy.out ?_; rintro e w1 ⟨rfl, hT, hK⟩)
      go_ret
      exact ⟨rfl, hT, ((HF1.out y).mono (fun _ _ h => h.elim)).trans hK (fun _ _ h => h)⟩

set_option maxRecDepth 100000 in
set_option maxHeartbeats 4000000 in
theorem bin_delta (s : ByteArray) (b p e1 : Nat) (least top : Int) (w : World) (hs : s.size ≤ 1000000) (hp : p ≤ s.size) (hB : TX w b s (p, e1)) :
    Calls Tryz.prog 143 #[.pointer (some ⟨b, 0, none⟩), .int .i64 least, .int .i64 top] w fun e w' => e = .returned (.int .i64 ((rdG s least top (p, e1)).1 : Nat)) ∧ TX w' b s (rdG s least top (p, e1)).2 ∧ Kp (fun j => j = b) w w' := by
  obtain ⟨F, hF1, hF2⟩ := still_class w
  have HF1 := Lib.hid hF1
  have HF2 := Lib.hid hF2
  have HB := Lib.hid hB
  have m0 : ∀ y, (F y).cell? ⟨b, 0, none⟩ = some (.string s) := fun y => ((HB.out.kp (HF1.out y) (fun h => h)).cells).1
  have m1 : ∀ y, (F y).cell? ⟨b, 1, none⟩ = some (.int .i64 (p : Nat)) := fun y => ((HB.out.kp (HF1.out y) (fun h => h)).cells).2.1
  have HW := Lib.hid (fun y => (octet_Get_in s p (F y) (by omega) hp).mono (R' := fun e w' => e = .returned (tripV (getN s p)) ∧ Kp (fun _ => False) (F y) w') (fun e w' ⟨h1, h2⟩ => ⟨h1, h2 ▸ Kp.refl _ _⟩))
  obtain ⟨n, q, e2, hN⟩ : ∃ n q e2, getN s p = (n, q, e2) := ⟨_, _, _, rfl⟩
  obtain ⟨rr, hrr⟩ : ∃ rr, (rdG s least top (p, e1)) = rr := ⟨_, rfl⟩
  rw [hrr]
  have hR := hrr
  unfold rdG at hR
  simp only at hR
  rw [hN] at hR HW
  simp only at hR
  unfold tripV at HW
  clear hF1 hF2 hB hrr
  have hw : wrap64 (n : Int) = (n : Int) := by
    have h3 := getR_lt s p 5 0 0 rfl (by decide)
    have h4 : (getN s p).1 = n := by rw [hN]
    unfold getN at h4
    rw [h4] at h3
    unfold wrap64
    omega
  by_cases he : e1 = 0
  · subst he
    rw [if_neg (by simp)] at hR
    by_cases h2 : e2 = 0
    · subst h2
      rw [if_neg (by simp)] at hR
      by_cases hg : (n : Int) < least ∨ top < (n : Int)
      · rw [if_pos hg] at hR
        subst hR
        rcases hg with hg | hg
        · have q0 : decide ((n : Int) < least) = true := decide_eq_true hg
          have HSt := Lib.hid (fun y => bin_step_err s b p 5 (q : Nat) (F y) (by decide) (HB.out.kp (HF1.out y) (fun h => h)))
          clear hN HB
          go_enter Tryz.func143, Tryz.ntmps143
          go_upto_region 1 with fail
          refine wp_region_kept (by kernel_rfl) (by kernel_rfl) HF2.out ?_
          repeat (go_big_quiet_step (with_reducible first | exact Calls.still_of HF1.out HF2.out (HW.out _)))
          refine wpQuiet_nil ?_
          rintro wB ⟨y, rfl⟩
          have HSy := Lib.hid (HSt.out y)
          clear m0 m1 HSt
          go_wp2_with (go_at_call 147; with_reducible refine Calls.mono HSy.out ?_; rintro e w1 ⟨rfl, hT, hK⟩)
          go_ret
          exact ⟨rfl, hT, ((HF1.out y).mono (fun _ _ h => h.elim)).trans hK (fun _ _ h => h)⟩
        · have q0 : decide ((n : Int) < least) = false ∨ decide ((n : Int) < least) = true := by cases decide ((n : Int) < least) <;> simp
          rcases q0 with q0 | q0
          · have q1 : decide (top < (n : Int)) = true := decide_eq_true hg
            have HSt := Lib.hid (fun y => bin_step_err s b p 5 (q : Nat) (F y) (by decide) (HB.out.kp (HF1.out y) (fun h => h)))
            clear hN HB
            go_enter Tryz.func143, Tryz.ntmps143
            go_upto_region 1 with fail
            refine wp_region_kept (by kernel_rfl) (by kernel_rfl) HF2.out ?_
            repeat (go_big_quiet_step (with_reducible first | exact Calls.still_of HF1.out HF2.out (HW.out _)))
            refine wpQuiet_nil ?_
            rintro wB ⟨y, rfl⟩
            have HSy := Lib.hid (HSt.out y)
            clear m0 m1 HSt
            go_wp2_with (go_at_call 147; with_reducible refine Calls.mono HSy.out ?_; rintro e w1 ⟨rfl, hT, hK⟩)
            go_ret
            exact ⟨rfl, hT, ((HF1.out y).mono (fun _ _ h => h.elim)).trans hK (fun _ _ h => h)⟩
          · have HSt := Lib.hid (fun y => bin_step_err s b p 5 (q : Nat) (F y) (by decide) (HB.out.kp (HF1.out y) (fun h => h)))
            clear hN HB
            go_enter Tryz.func143, Tryz.ntmps143
            go_upto_region 1 with fail
            refine wp_region_kept (by kernel_rfl) (by kernel_rfl) HF2.out ?_
            repeat (go_big_quiet_step (with_reducible first | exact Calls.still_of HF1.out HF2.out (HW.out _)))
            refine wpQuiet_nil ?_
            rintro wB ⟨y, rfl⟩
            have HSy := Lib.hid (HSt.out y)
            clear m0 m1 HSt
            go_wp2_with (go_at_call 147; with_reducible refine Calls.mono HSy.out ?_; rintro e w1 ⟨rfl, hT, hK⟩)
            go_ret
            exact ⟨rfl, hT, ((HF1.out y).mono (fun _ _ h => h.elim)).trans hK (fun _ _ h => h)⟩
      · rw [if_neg hg] at hR
        subst hR
        have q0 : decide ((n : Int) < least) = false := decide_eq_false (fun h => hg (.inl h))
        have q1 : decide (top < (n : Int)) = false := decide_eq_false (fun h => hg (.inr h))
        have HSt := Lib.hid (fun y => bin_step_ok s b p q (F y) (HB.out.kp (HF1.out y) (fun h => h)))
        clear hN HB
        go_enter Tryz.func143, Tryz.ntmps143
        go_upto_region 1 with fail
        refine wp_region_kept (by kernel_rfl) (by kernel_rfl) HF2.out ?_
        repeat (go_big_quiet_step (with_reducible first | exact Calls.still_of HF1.out HF2.out (HW.out _)))
        refine wpQuiet_nil ?_
        rintro wB ⟨y, rfl⟩
        have HSy := Lib.hid (HSt.out y)
        clear m0 m1 HSt
        go_wp2_with (go_at_call 147; with_reducible refine Calls.mono HSy.out ?_; rintro e w1 ⟨rfl, hT, hK⟩)
        go_ret
        exact ⟨(by first | rfl | (show Ending.returned (Value.int .i64 (wrap64 (n : Int))) = _; rw [hw])), hT, ((HF1.out y).mono (fun _ _ h => h.elim)).trans hK (fun _ _ h => h)⟩
    · rw [if_pos h2] at hR
      subst hR
      have q2 : ((e2 : Int) == 0) = false := by rw [beq_eq_false_iff_ne]; omega
      have HH2 := Lib.hid h2
      clear h2
      have HSt := Lib.hid (fun y => bin_step_err s b p e2 (q : Nat) (F y) HH2.out (HB.out.kp (HF1.out y) (fun h => h)))
      clear hN HB
      go_enter Tryz.func143, Tryz.ntmps143
      go_upto_region 1 with fail
      refine wp_region_kept (by kernel_rfl) (by kernel_rfl) HF2.out ?_
      repeat (go_big_quiet_step (with_reducible first | exact Calls.still_of HF1.out HF2.out (HW.out _)))
      refine wpQuiet_nil ?_
      rintro wB ⟨y, rfl⟩
      have HSy := Lib.hid (HSt.out y)
      clear m0 m1 HSt
      go_wp2_with (go_at_call 147; with_reducible refine Calls.mono HSy.out ?_; rintro e w1 ⟨rfl, hT, hK⟩)
      go_ret
      exact ⟨rfl, hT, ((HF1.out y).mono (fun _ _ h => h.elim)).trans hK (fun _ _ h => h)⟩
  · rw [if_pos he] at hR
    subst hR
    have HHe := Lib.hid he
    clear he
    by_cases h2 : e2 = 0
    · subst h2
      cases q0 : decide ((n : Int) < least) with
      | true =>
        have HSt := Lib.hid (fun y => bin_step_stay s b p e1 (q : Nat) 5 (F y) HHe.out (HB.out.kp (HF1.out y) (fun h => h)))
        clear hN HB
        go_enter Tryz.func143, Tryz.ntmps143
        go_upto_region 1 with fail
        refine wp_region_kept (by kernel_rfl) (by kernel_rfl) HF2.out ?_
        repeat (go_big_quiet_step (with_reducible first | exact Calls.still_of HF1.out HF2.out (HW.out _)))
        refine wpQuiet_nil ?_
        rintro wB ⟨y, rfl⟩
        have HSy := Lib.hid (HSt.out y)
        clear m0 m1 HSt
        go_wp2_with (go_at_call 147; with_reducible refine Calls.mono HSy.out ?_; rintro e w1 ⟨rfl, hT, hK⟩)
        go_ret
        exact ⟨rfl, hT, ((HF1.out y).mono (fun _ _ h => h.elim)).trans hK (fun _ _ h => h)⟩
      | false =>
        cases q1 : decide (top < (n : Int)) with
        | true =>
          have HSt := Lib.hid (fun y => bin_step_stay s b p e1 (q : Nat) 5 (F y) HHe.out (HB.out.kp (HF1.out y) (fun h => h)))
          clear hN HB
          go_enter Tryz.func143, Tryz.ntmps143
          go_upto_region 1 with fail
          refine wp_region_kept (by kernel_rfl) (by kernel_rfl) HF2.out ?_
          repeat (go_big_quiet_step (with_reducible first | exact Calls.still_of HF1.out HF2.out (HW.out _)))
          refine wpQuiet_nil ?_
          rintro wB ⟨y, rfl⟩
          have HSy := Lib.hid (HSt.out y)
          clear m0 m1 HSt
          go_wp2_with (go_at_call 147; with_reducible refine Calls.mono HSy.out ?_; rintro e w1 ⟨rfl, hT, hK⟩)
          go_ret
          exact ⟨rfl, hT, ((HF1.out y).mono (fun _ _ h => h.elim)).trans hK (fun _ _ h => h)⟩
        | false =>
          have HSt := Lib.hid (fun y => bin_step_stay s b p e1 (q : Nat) 0 (F y) HHe.out (HB.out.kp (HF1.out y) (fun h => h)))
          clear hN HB
          go_enter Tryz.func143, Tryz.ntmps143
          go_upto_region 1 with fail
          refine wp_region_kept (by kernel_rfl) (by kernel_rfl) HF2.out ?_
          repeat (go_big_quiet_step (with_reducible first | exact Calls.still_of HF1.out HF2.out (HW.out _)))
          refine wpQuiet_nil ?_
          rintro wB ⟨y, rfl⟩
          have HSy := Lib.hid (HSt.out y)
          clear m0 m1 HSt
          go_wp2_with (go_at_call 147; with_reducible refine Calls.mono HSy.out ?_; rintro e w1 ⟨rfl, hT, hK⟩)
          go_ret
          exact ⟨rfl, hT, ((HF1.out y).mono (fun _ _ h => h.elim)).trans hK (fun _ _ h => h)⟩
    · have q2 : ((e2 : Int) == 0) = false := by rw [beq_eq_false_iff_ne]; omega
      clear h2
      have HSt := Lib.hid (fun y => bin_step_stay s b p e1 (q : Nat) (e2 : Nat) (F y) HHe.out (HB.out.kp (HF1.out y) (fun h => h)))
      clear hN HB
      go_enter Tryz.func143, Tryz.ntmps143
      go_upto_region 1 with fail
      refine wp_region_kept (by kernel_rfl) (by kernel_rfl) HF2.out ?_
      repeat (go_big_quiet_step (with_reducible first | exact Calls.still_of HF1.out HF2.out (HW.out _)))
      refine wpQuiet_nil ?_
      rintro wB ⟨y, rfl⟩
      have HSy := Lib.hid (HSt.out y)
      clear m0 m1 HSt
      go_wp2_with (go_at_call 147; with_reducible refine Calls.mono HSy.out ?_; rintro e w1 ⟨rfl, hT, hK⟩)
      go_ret
      exact ⟨rfl, hT, ((HF1.out y).mono (fun _ _ h => h.elim)).trans hK (fun _ _ h => h)⟩

set_option maxRecDepth 100000 in
set_option maxHeartbeats 4000000 in
theorem bin_sign (s some_ : ByteArray) (ok : Nat → Bool) (b p e1 : Nat) (w : World) (hs : s.size ≤ 1000000) (hp : p ≤ s.size) (hidx : ∀ c, c < 256 → decide (Lib.indexByte some_.data.toList c.toUInt8 < 0) = !ok c) (hB : TX w b s (p, e1)) :
    Calls Tryz.prog 145 #[.pointer (some ⟨b, 0, none⟩), .string some_] w fun e w' => e = .returned (.int .u8 ((rdS s ok (p, e1)).1 : Nat)) ∧ TX w' b s (rdS s ok (p, e1)).2 ∧ Kp (fun j => j = b) w w' := by
  obtain ⟨rr, hR⟩ : ∃ rr, rdS s ok (p, e1) = rr := ⟨_, rfl⟩
  rw [hR]
  unfold rdS at hR
  simp only at hR
  obtain ⟨b0, b1, b2, f1, f2⟩ := hB.cells
  have HB := Lib.hid hB
  clear hB
  by_cases hlt : p = s.size
  · have t1 : ((p : Int) == (s.size : Int)) = true := by rw [beq_iff_eq]; omega
    rw [if_pos hlt] at hR
    have HP := Lib.hid hlt
    clear hlt hidx
    by_cases he : e1 = 0
    · subst he
      rw [if_neg (by simp)] at hR
      subst hR
      have HSt := Lib.hid (fun u (hu : Kp (fun _ => False) w u) => bin_step_err s b p 3 ((p : Int) + 1) u (by decide) (HB.out.kp hu (fun h => h)))
      clear HB
      go_enter Tryz.func145, Tryz.ntmps145
      go_upto_region 3 with fail
      go_quiet (fail)
      go_wp2_with fail
      refine Calls.mono (HSt.out _ (by first | exact (Kp.refl _ _).drewN _ | exact ((Kp.refl _ _).drewN _).drewN _ | exact (((Kp.refl _ _).drewN _).drewN _).drewN _)) ?_
      rintro e w1 ⟨rfl, hT, hK⟩
      have HE := Lib.hid (And.intro hT (show Kp (fun j => j = b) w w1 from Kp.trans (by first | exact (Kp.refl _ _).drewN _ | exact ((Kp.refl _ _).drewN _).drewN _ | exact (((Kp.refl _ _).drewN _).drewN _).drewN _) hK (fun _ _ h => h)))
      clear hT hK
      go_wp2_with fail
      go_ret
      exact ⟨rfl, HE.out⟩
    · rw [if_pos he] at hR
      subst hR
      have HHe := Lib.hid he
      clear he
      have HSt := Lib.hid (fun u (hu : Kp (fun _ => False) w u) => bin_step_stay s b p e1 ((p : Int) + 1) 3 u HHe.out (HB.out.kp hu (fun h => h)))
      clear HB
      go_enter Tryz.func145, Tryz.ntmps145
      go_upto_region 3 with fail
      go_quiet (fail)
      go_wp2_with fail
      refine Calls.mono (HSt.out _ (by first | exact (Kp.refl _ _).drewN _ | exact ((Kp.refl _ _).drewN _).drewN _ | exact (((Kp.refl _ _).drewN _).drewN _).drewN _)) ?_
      rintro e w1 ⟨rfl, hT, hK⟩
      have HE := Lib.hid (And.intro hT (show Kp (fun j => j = b) w w1 from Kp.trans (by first | exact (Kp.refl _ _).drewN _ | exact ((Kp.refl _ _).drewN _).drewN _ | exact (((Kp.refl _ _).drewN _).drewN _).drewN _) hK (fun _ _ h => h)))
      clear hT hK
      go_wp2_with fail
      go_ret
      exact ⟨rfl, HE.out⟩
  · have hlt2 : p < s.size := by omega
    rw [if_neg hlt] at hR
    have t1 : ((p : Int) == (s.size : Int)) = false := by rw [beq_eq_false_iff_ne]; omega
    have l1 : (p : Int) < (s.size : Int) := by omega
    have hb := bt_eq hlt2
    obtain ⟨c, hc⟩ : ∃ c, bt s p = c := ⟨_, rfl⟩
    have hix := hidx c (by rw [← hc]; exact bt_lt s p)
    rw [hc] at hb hR
    have HIx := Lib.hid (fun u => Tryz.strings_IndexByte some_ (c : Nat) u)
    obtain ⟨i, hi⟩ : ∃ i, Lib.indexByte some_.data.toList c.toUInt8 = i := ⟨_, rfl⟩
    rw [Int.toNat_natCast, hi] at HIx
    rw [hi] at hix
    clear hidx hc hi hlt
    cases hok : ok c with
    | true =>
      rw [hok] at hix hR
      rw [if_neg (show ¬ (true = false) by simp)] at hR
      simp only [Bool.not_true] at hix
      have HOk := Lib.hid hok
      clear hok
      by_cases he : e1 = 0
      · subst he
        rw [if_neg (by simp)] at hR
        subst hR
        have HSt := Lib.hid (fun u (hu : Kp (fun _ => False) w u) => bin_step_ok s b p (p + 1) u (HB.out.kp hu (fun h => h)))
        clear HB
        go_enter Tryz.func145, Tryz.ntmps145
        go_upto_region 3 with fail
        go_quiet (fail)
        go_wp2_with fail
        go_quiet ((go_at_call 56; exact (HIx.out _).mono (fun e u' ⟨h1, h2⟩ => ⟨h1, _, h2⟩)))
        go_wp2_with fail
        go_quiet (fail)
        go_wp2_with fail
        refine Calls.mono (HSt.out _ (by first | exact (Kp.refl _ _).drewN _ | exact ((Kp.refl _ _).drewN _).drewN _ | exact (((Kp.refl _ _).drewN _).drewN _).drewN _)) ?_
        rintro e w1 ⟨rfl, hT, hK⟩
        have HE := Lib.hid (And.intro hT (show Kp (fun j => j = b) w w1 from Kp.trans (by first | exact (Kp.refl _ _).drewN _ | exact ((Kp.refl _ _).drewN _).drewN _ | exact (((Kp.refl _ _).drewN _).drewN _).drewN _) hK (fun _ _ h => h)))
        clear hT hK
        go_wp2_with fail
        go_ret
        exact ⟨rfl, HE.out⟩
      · rw [if_pos he] at hR
        subst hR
        have HHe := Lib.hid he
        clear he
        have HSt := Lib.hid (fun u (hu : Kp (fun _ => False) w u) => bin_step_stay s b p e1 ((p : Int) + 1) 0 u HHe.out (HB.out.kp hu (fun h => h)))
        clear HB
        go_enter Tryz.func145, Tryz.ntmps145
        go_upto_region 3 with fail
        go_quiet (fail)
        go_wp2_with fail
        go_quiet ((go_at_call 56; exact (HIx.out _).mono (fun e u' ⟨h1, h2⟩ => ⟨h1, _, h2⟩)))
        go_wp2_with fail
        go_quiet (fail)
        go_wp2_with fail
        refine Calls.mono (HSt.out _ (by first | exact (Kp.refl _ _).drewN _ | exact ((Kp.refl _ _).drewN _).drewN _ | exact (((Kp.refl _ _).drewN _).drewN _).drewN _)) ?_
        rintro e w1 ⟨rfl, hT, hK⟩
        have HE := Lib.hid (And.intro hT (show Kp (fun j => j = b) w w1 from Kp.trans (by first | exact (Kp.refl _ _).drewN _ | exact ((Kp.refl _ _).drewN _).drewN _ | exact (((Kp.refl _ _).drewN _).drewN _).drewN _) hK (fun _ _ h => h)))
        clear hT hK
        go_wp2_with fail
        go_ret
        exact ⟨rfl, HE.out⟩
    | false =>
      rw [hok] at hix hR
      rw [if_pos (show (false = false) from rfl)] at hR
      simp only [Bool.not_false] at hix
      have HOk := Lib.hid hok
      clear hok
      by_cases he : e1 = 0
      · subst he
        rw [if_neg (by simp)] at hR
        subst hR
        have HSt := Lib.hid (fun u (hu : Kp (fun _ => False) w u) => bin_step_err s b p 2 ((p : Int) + 1) u (by decide) (HB.out.kp hu (fun h => h)))
        clear HB
        go_enter Tryz.func145, Tryz.ntmps145
        go_upto_region 3 with fail
        go_quiet (fail)
        go_wp2_with fail
        go_quiet ((go_at_call 56; exact (HIx.out _).mono (fun e u' ⟨h1, h2⟩ => ⟨h1, _, h2⟩)))
        go_wp2_with fail
        refine Calls.mono (HSt.out _ (by first | exact (Kp.refl _ _).drewN _ | exact ((Kp.refl _ _).drewN _).drewN _ | exact (((Kp.refl _ _).drewN _).drewN _).drewN _)) ?_
        rintro e w1 ⟨rfl, hT, hK⟩
        have HE := Lib.hid (And.intro hT (show Kp (fun j => j = b) w w1 from Kp.trans (by first | exact (Kp.refl _ _).drewN _ | exact ((Kp.refl _ _).drewN _).drewN _ | exact (((Kp.refl _ _).drewN _).drewN _).drewN _) hK (fun _ _ h => h)))
        clear hT hK
        go_wp2_with fail
        go_ret
        exact ⟨rfl, HE.out⟩
      · rw [if_pos he] at hR
        subst hR
        have HHe := Lib.hid he
        clear he
        have HSt := Lib.hid (fun u (hu : Kp (fun _ => False) w u) => bin_step_stay s b p e1 ((p : Int) + 1) 2 u HHe.out (HB.out.kp hu (fun h => h)))
        clear HB
        go_enter Tryz.func145, Tryz.ntmps145
        go_upto_region 3 with fail
        go_quiet (fail)
        go_wp2_with fail
        go_quiet ((go_at_call 56; exact (HIx.out _).mono (fun e u' ⟨h1, h2⟩ => ⟨h1, _, h2⟩)))
        go_wp2_with fail
        refine Calls.mono (HSt.out _ (by first | exact (Kp.refl _ _).drewN _ | exact ((Kp.refl _ _).drewN _).drewN _ | exact (((Kp.refl _ _).drewN _).drewN _).drewN _)) ?_
        rintro e w1 ⟨rfl, hT, hK⟩
        have HE := Lib.hid (And.intro hT (show Kp (fun j => j = b) w w1 from Kp.trans (by first | exact (Kp.refl _ _).drewN _ | exact ((Kp.refl _ _).drewN _).drewN _ | exact (((Kp.refl _ _).drewN _).drewN _).drewN _) hK (fun _ _ h => h)))
        clear hT hK
        go_wp2_with fail
        go_ret
        exact ⟨rfl, HE.out⟩

end Go.Proofs.YtckmdcmkjmpiaaaGreatDoor

/-
  append of a whole slice of structs: as a step of a region that draws its order, and of one that does not.
-/
namespace Go.Proofs.YtckmdcmkjmpiaaaGreatDoor
open Go.RowKit

theorem flat_ones : ∀ cs : List Value, (cs.map (fun c => [c])).flatten = cs
  | [] => rfl
  | a :: r => by rw [List.map_cons, List.flatten_cons, flat_ones r]; rfl

/-- a row of one-cell elements, as rows of one -/
theorem Own.rows {w : World} {base : Nat} {e : TypeId} {v : Value} {cs : List Value} (h : Own w base e v cs) : OwnK w base e 1 v (cs.map (fun c => [c])) := by
  refine ⟨?_, fun r hr => by obtain ⟨x, _, rfl⟩ := List.mem_map.1 hr; rfl⟩
  have e1 := flat_ones cs
  rw [List.length_map, e1]
  exact h

theorem OwnK.row {w : World} {base : Nat} {e : TypeId} {v : Value} {cs : List Value} (h : OwnK w base e 1 v (cs.map (fun c => [c]))) : Own w base e v cs := by
  have h1 := h.own
  have e1 := flat_ones cs
  rw [List.length_map, e1] at h1
  exact h1

end Go.Proofs.YtckmdcmkjmpiaaaGreatDoor

/-
  append of one-cell elements as a step of a region that draws its order.
-/
namespace Go.Proofs.YtckmdcmkjmpiaaaGreatDoor
open Go.RowKit

end Go.Proofs.YtckmdcmkjmpiaaaGreatDoor

/-
  latchetref02.Has; latchetref11: Owned, Used.
-/
namespace Go.Proofs.YtckmdcmkjmpiaaaGreatDoor
open Go.RowKit

end Go.Proofs.YtckmdcmkjmpiaaaGreatDoor

/-
  binary.lits.
-/
namespace Go.Proofs.YtckmdcmkjmpiaaaGreatDoor
open Go.RowKit

/-- so many lines of one literal -/
def rdLits (s : ByteArray) (top : Int) : Nat → List Int → Nat × Nat → List Int × Nat × Nat
  | 0, L, st => (L, st)
  | k + 1, L, st => if (rdS s (fun c => c == 10) (rdD s top st).2).1 ≠ 10 then ([], (rdS s (fun c => c == 10) (rdD s top st).2).2) else rdLits s top k (L ++ [((rdD s top st).1 : Int)]) (rdS s (fun c => c == 10) (rdD s top st).2).2

theorem rdD_le {s : ByteArray} {top : Int} {st : Nat × Nat} (h : st.1 ≤ s.size) : (rdD s top st).2.1 ≤ s.size := by
  unfold rdD
  by_cases c1 : st.2 ≠ 0
  · rw [if_pos c1]; exact h
  rw [if_neg c1]
  by_cases c2 : (natN s st.1).2.2 ≠ 0
  · rw [if_pos c2]; exact h
  rw [if_neg c2]
  by_cases c3 : top < ((natN s st.1).1 : Int)
  · rw [if_pos c3]; exact h
  rw [if_neg c3]
  exact (natN_end h (by simpa using c2)).2.1
theorem rdS_le {s : ByteArray} {ok : Nat → Bool} {st : Nat × Nat} (h : st.1 ≤ s.size) : (rdS s ok st).2.1 ≤ s.size := by
  unfold rdS
  by_cases c1 : st.2 ≠ 0
  · rw [if_pos c1]; exact h
  rw [if_neg c1]
  by_cases c2 : st.1 = s.size
  · rw [if_pos c2]; exact h
  rw [if_neg c2]
  by_cases c3 : ok (bt s st.1) = false
  · rw [if_pos c3]; exact h
  rw [if_neg c3]
  show st.1 + 1 ≤ _
  omega

theorem idx10 : ∀ c, c < 256 → decide (Lib.indexByte (⟨#[10]⟩ : ByteArray).data.toList c.toUInt8 < 0) = !(c == 10) := by decide +kernel
theorem idx3210 : ∀ c, c < 256 → decide (Lib.indexByte (⟨#[32, 10]⟩ : ByteArray).data.toList c.toUInt8 < 0) = !(c == 32 || c == 10) := by decide +kernel

theorem wint_info : (Tryz.prog.info? 3).map (fun i => (i.zero, i.size, i.bytes)) = some (some (.int .i64 0), 1, 8) := by kernel_rfl
theorem met_digits (n : Nat) (x : Option Addr) (w : World) : (method (n + 1) 128 (.pointer x) "latchet/binary.digits").run Tryz.prog w = .ok (144, .pointer x) w := by kernel_rfl
theorem met_sign (n : Nat) (x : Option Addr) (w : World) : (method (n + 1) 128 (.pointer x) "latchet/binary.sign").run Tryz.prog w = .ok (145, .pointer x) w := by kernel_rfl
theorem met_delta (n : Nat) (x : Option Addr) (w : World) : (method (n + 1) 128 (.pointer x) "latchet/binary.delta").run Tryz.prog w = .ok (143, .pointer x) w := by kernel_rfl
theorem met_ended (n : Nat) (x : Option Addr) (w : World) : (method (n + 1) 128 (.pointer x) "latchet/binary.ended").run Tryz.prog w = .ok (70, .pointer x) w := by kernel_rfl

set_option maxRecDepth 100000 in
set_option maxHeartbeats 4000000 in
theorem bin_lits (s : ByteArray) (b : Nat) (st : Nat × Nat) (top : Int) (many : Nat) (w : World) (hs : s.size ≤ 1000000) (hp : st.1 ≤ s.size) (hm : many ≤ 20000000) (hB : TX w b s st) :
    Calls Tryz.prog 88 #[.iface 128 (.pointer (some ⟨b, 0, none⟩)), .int .i64 top, .int .i64 (many : Nat)] w fun e w' => ∃ v, e = .returned v ∧ Own w' w.heap.size 3 v (iv (rdLits s top many [] st).1) ∧ TX w' b s (rdLits s top many [] st).2 ∧ Kp (fun j => j = b) w w' := by
  have HB := Lib.hid hB
  have iv1 := met_digits
  have iv2 := met_sign
  clear hB
  go_enter Tryz.func88, Tryz.ntmps88
  go_wp2_with fail
  go_loopw [7, 8, 10] (fun v7 v8 v10 wr => ∃ (k : Nat) (L : List Int) (t : Nat × Nat), v10 = .int .i64 k ∧ k ≤ many ∧ L.length = k ∧ rdLits s top many [] st = rdLits s top (many - k) L t ∧ t.1 ≤ s.size ∧ Own wr w.heap.size 3 v7 (iv L) ∧ TX wr b s t ∧ Kp (fun j => j = b) w wr) (fun _ _ v10 _ => many - (intOf v10).toNat)
  case atStart => exact ⟨0, [], st, rfl, by omega, rfl, rfl, hp, Own.nil _ _ _, HB.out, Kp.refl _ _⟩
  case round =>
    obtain ⟨k, L, t, rfl, hk, hL, hE, ht, hO, hT, hK⟩ := hrel
    obtain ⟨wp, rfl⟩ : ∃ wp : World, wp = wr := ⟨_, rfl⟩
    have HO := Lib.hid hO
    have HK := Lib.hid hK
    have HE := Lib.hid hE
    have HL := Lib.hid hL
    by_cases hlt : k < many
    · obtain ⟨t1, t2⟩ := t
      obtain ⟨n, p2, e2, hd⟩ : ∃ n p2 e2, rdD s top (t1, t2) = (n, p2, e2) := ⟨_, _, _, rfl⟩
      have hp2 : p2 ≤ s.size := by have := rdD_le (s := s) (top := top) ht; rw [hd] at this; exact this
      obtain ⟨c, p3, e3, hg⟩ : ∃ c p3 e3, rdS s (fun c => c == 10) (p2, e2) = (c, p3, e3) := ⟨_, _, _, rfl⟩
      have hp3 : p3 ≤ s.size := by have := rdS_le (s := s) (ok := fun c => c == 10) (st := (p2, e2)) hp2; rw [hg] at this; exact this
      have HD := Lib.hid (bin_digits s b t1 t2 top wp hs ht hT)
      have HS := Lib.hid (fun u hu => bin_sign s ⟨#[10]⟩ (fun c => c == 10) b p2 e2 u hs hp2 idx10 hu)
      rw [hd] at HD
      rw [hg] at HS
      obtain ⟨j, hj⟩ : ∃ j, many - k = j + 1 := ⟨many - k - 1, by omega⟩
      have hstep : rdLits s top (j + 1) L (t1, t2) = if c ≠ 10 then ([], (p3, e3)) else rdLits s top j (L ++ [(n : Int)]) (p3, e3) := by
        show (if (rdS s (fun c => c == 10) (rdD s top (t1, t2)).2).1 ≠ 10 then _ else _) = _
        rw [hd]
        simp only
        rw [hg]
      rw [hj, hstep] at HE
      have HJ := Lib.hid (show many - (k + 1) = j by omega)
      clear hE hL ht hT hd hg hj hstep hO hK
      by_cases hc : c = 10
      · subst hc
        go_upto_region 7 with (first
          | (go_at_call 144; with_reducible refine Calls.mono HD.out ?_; rintro e w1 ⟨rfl, hT1, hK1⟩; have HS1 := Lib.hid (HS.out w1 hT1))
          | (go_at_call 145; with_reducible refine Calls.mono HS1.out ?_; rintro e w2 ⟨rfl, hT2, hK2⟩))
        rw [if_neg (by simp)] at HE
        have HK2 := Lib.hid (HK.out.trans (hK1.trans hK2 (fun _ _ h => h)) (fun _ _ h => h))
        have hO2 : Own w2 w.heap.size 3 u7 (iv L) := HO.out.kp (hK1.trans hK2 (fun _ _ h => h)) (fun j hj e => by have := (HO.out.lt j hj).1; have e2 : j = b := e; have := HB.out.lt; omega)
        have HOw := Lib.hid (hO2.alloc (.cells #[.int .i64 (n : Int)] 3))
        have HNew := Lib.hid (Blk.new w2 #[.int .i64 (n : Int)] 3)
        have HT2 := Lib.hid hT2
        have hws : w.heap.size ≤ w2.heap.size := HK2.out.size
        clear hT1 hK1 hK2 hT2 hO2 HS1
        go_wp2_with (at_builtin; refine wpList_append1_at rfl _ _ 22 3 rfl Tryz.underlying22 wint_info rfl HOw.out rfl ⟨w2.heap.size, 0, none⟩ (.int .i64 (n : Int)) rfl (HNew.out.cell rfl) rfl ?d1 ?d2 ?d3 ?_)
        case d1 => rw [iv_length, HL.out]; omega
        case d2 => rw [iv_length, HL.out]; unfold maxLen; omega
        case d3 => simp; omega
        intro v' w3 hO3 hg3 hat3
        have hkg : Kp (fun j => u7.ownBlock = some j) w2 w3 := ((Kp.refl _ _).alloc _).grown hg3 (fun j hj _ => hj)
        have hof := fun j (h : u7.ownBlock = some j) => (HO.out.lt j h).1
        have HF := Lib.hid (show Own w3 w.heap.size 3 v' (iv (L ++ [(n : Int)])) ∧ TX w3 b s (p3, e3) ∧ Kp (fun j => j = b) w w3 from ⟨by rw [iv_append]; exact hO3, HT2.out.kp hkg (fun e => by have := hof _ e; have := HB.out.lt; omega), HK2.out.trans hkg (fun j hj e => by have := hof _ e; omega)⟩)
        clear hO3 hg3 hat3 hkg hof HNew HOw
        go_wp2_with fail
        go_roundw
        case rel => exact ⟨k + 1, L ++ [(n : Int)], (p3, e3), by go_num, by omega, by rw [List.length_append, HL.out]; rfl, by rw [HJ.out]; exact HE.out, hp3, HF.out⟩
        case measure => simp [intOf]; omega
      · have hcq : ((c : Int) != 10) = true := by simp; omega
        rw [if_pos hc] at HE
        have HC := Lib.hid hc
        clear hc
        go_wp2_with (first
          | (go_at_call 144; with_reducible refine Calls.mono HD.out ?_; rintro e w1 ⟨rfl, hT1, hK1⟩; have HS1 := Lib.hid (HS.out w1 hT1))
          | (go_at_call 145; with_reducible refine Calls.mono HS1.out ?_; rintro e w2 ⟨rfl, hT2, hK2⟩))
        have HK2 := Lib.hid (HK.out.trans (hK1.trans hK2 (fun _ _ h => h)) (fun _ _ h => h))
        go_ret
        rw [HE.out]
        exact ⟨_, rfl, Own.nil _ _ _, hT2, HK2.out⟩
    · obtain rfl : k = many := by omega
      rw [Nat.sub_self] at HE
      have HF := Lib.hid (show Own wp w.heap.size 3 u7 (iv (rdLits s top k [] st).1) ∧ TX wp b s (rdLits s top k [] st).2 ∧ Kp (fun j => j = b) w wp from by rw [HE.out]; exact ⟨hO, hT, hK⟩)
      clear hE hL ht hT hO hK
      go_wp2_with fail
      go_ret
      exact ⟨_, rfl, HF.out⟩

end Go.Proofs.YtckmdcmkjmpiaaaGreatDoor

/-
  A region that draws its order, whose operations up to a row of last ones load, compute, make memory of their own, or call what
  makes memory of its own: what each yields is told by a predicate that no new memory spoils. One proof an operation, no orders.
-/
namespace Go.Proofs.YtckmdcmkjmpiaaaGreatDoor
open Go Go.RowKit

def unl (listed : Array Bool) (i : Nat) : Bool := !listed.getD i false
def cntU (n : Nat) (listed : Array Bool) : Nat := (List.range n).countP (unl listed)

theorem cntU_succ (n : Nat) (listed : Array Bool) : cntU (n + 1) listed = cntU n listed + (if unl listed n = true then 1 else 0) := by
  unfold cntU
  rw [List.range_succ, List.countP_append]
  simp [List.countP_cons]

theorem unl_set_ne {listed : Array Bool} {i j : Nat} (h : j ≠ i) : unl (listed.setIfInBounds i true) j = unl listed j := by
  unfold unl
  simp only [Array.getD_eq_getD_getElem?, Array.getElem?_setIfInBounds]
  rw [if_neg (fun e => h e.symm)]

theorem cntU_far {listed : Array Bool} {i : Nat} : ∀ n, n ≤ i → cntU n (listed.setIfInBounds i true) = cntU n listed
  | 0, _ => rfl
  | n + 1, h => by rw [cntU_succ, cntU_succ, cntU_far n (by omega), unl_set_ne (by omega)]

theorem cntU_set {listed : Array Bool} {i : Nat} (hi : i < listed.size) (hu : listed.getD i false = false) : ∀ n, i < n → cntU n (listed.setIfInBounds i true) + 1 = cntU n listed
  | 0, h => by omega
  | n + 1, h => by
    rw [cntU_succ, cntU_succ]
    by_cases e : i = n
    · subst e
      rw [cntU_far i (Nat.le_refl _)]
      have h1 : unl (listed.setIfInBounds i true) i = false := by
        unfold unl
        simp [Array.getD_eq_getD_getElem?, hi]
      have h2 : unl listed i = true := by unfold unl; rw [hu]; rfl
      rw [h1, h2]
      simp
    · have := cntU_set hi hu n (by omega)
      rw [unl_set_ne (fun h => e h.symm)]
      omega

theorem least_of {R : Nat → Prop} (h : ∃ n, R n) : ∃ n, R n ∧ ∀ m, m < n → ¬ R m := by
  obtain ⟨n, hn⟩ := h
  induction n using Nat.strongRecOn with
  | _ n ih =>
    by_cases h : ∃ m, m < n ∧ R m
    · obtain ⟨m, hm, hr⟩ := h
      exact ih m hm hr
    · exact ⟨n, hn, fun m hm hr => h ⟨m, hm, hr⟩⟩

/-- on what an operation waits -/
def edgesOf (ops : Array Oper) (i : Nat) : List Nat := match ops[i]? with
  | none => []
  | some o => (o.after.toList.filter (Region.binds .any)).map (·.on)
def cloStep (ops : Array Oper) (l : List Nat) : List Nat := (List.range ops.size).filter (fun j => l.contains j || l.any (fun i => (edgesOf ops i).contains j))
def clo (ops : Array Oper) : Nat → List Nat → List Nat
  | 0, l => l
  | n + 1, l => clo ops n (cloStep ops l)

theorem clo_listed {ops : Array Oper} {listed : Nat → Prop} (hc : ∀ j, listed j → ∀ k, k ∈ edgesOf ops j → listed k) : ∀ (n : Nat) (l : List Nat), (∀ j, j ∈ l → listed j) → ∀ j, j ∈ clo ops n l → listed j
  | 0, _, h, j, hj => h j hj
  | n + 1, l, h, j, hj => by
    refine clo_listed hc n _ (fun k hk => ?_) j hj
    unfold cloStep at hk
    have h2 := (List.mem_filter.1 hk).2
    simp only [Bool.or_eq_true, List.contains_eq_mem, decide_eq_true_eq, List.any_eq_true] at h2
    rcases h2 with h2 | ⟨i, hi, h3⟩
    · exact h k h2
    · exact hc i (h i hi) k h3

theorem mem_edgesOf {ops : Array Oper} {i : Nat} {o : Oper} (ho : ops[i]? = some o) {k : Nat} : k ∈ edgesOf ops i ↔ ∃ e ∈ o.after, Region.binds .any e = true ∧ e.on = k := by
  unfold edgesOf
  rw [ho]
  simp only [List.mem_map, List.mem_filter, Array.mem_toList_iff]
  exact ⟨fun ⟨e, ⟨h1, h2⟩, h3⟩ => ⟨e, h1, h2, h3⟩, fun ⟨e, h1, h2, h3⟩ => ⟨e, ⟨h1, h2⟩, h3⟩⟩

/-- how the operations hang together: those of p come first -/
structure LooseOK (ops : Array Oper) (p : Nat → Bool) (N : Nat) : Prop where
  ng : ∀ (i : Nat) (o : Oper), ops[i]? = some o → o.guard = none
  low : ∀ (i : Nat) (o : Oper), ops[i]? = some o → p i = true → ∀ e ∈ o.after, Region.binds .any e = true → e.on < i ∧ p e.on = true
  dst : ∀ (i : Nat) (o : Oper), ops[i]? = some o → p i = true → ∃ d, o.dst = some d ∧ d < N
  inj : ∀ (i j : Nat) (o o' : Oper), ops[i]? = some o → ops[j]? = some o' → p i = true → p j = true → o.dst = o'.dst → i = j
  bar : ∀ (i : Nat) (o : Oper), ops[i]? = some o → p i = false → ∀ j, j < ops.size → p j = true → j ∈ clo ops 6 (edgesOf ops i)

def looseB (ops : Array Oper) (p : Nat → Bool) (N : Nat) : Bool :=
  (List.range ops.size).all fun i => match ops[i]? with
    | none => true
    | some o => o.guard.isNone && (if p i then
        o.after.all (fun e => !Region.binds .any e || (decide (e.on < i) && p e.on)) &&
          (match o.dst with
            | none => false
            | some d => decide (d < N) && (List.range ops.size).all (fun j => !p j || decide (j = i) || (match ops[j]? with | none => true | some o' => decide (o'.dst ≠ some d))))
      else (List.range ops.size).all (fun j => !p j || (clo ops 6 (edgesOf ops i)).contains j))

theorem looseB_spec {ops : Array Oper} {p : Nat → Bool} {N : Nat} (h : looseB ops p N = true) : LooseOK ops p N := by
  unfold looseB at h
  rw [List.all_eq_true] at h
  have get : ∀ (i : Nat) (o : Oper), ops[i]? = some o → o.guard.isNone = true ∧ (if p i then
        o.after.all (fun e => !Region.binds .any e || (decide (e.on < i) && p e.on)) &&
          (match o.dst with
            | none => false
            | some d => decide (d < N) && (List.range ops.size).all (fun j => !p j || decide (j = i) || (match ops[j]? with | none => true | some o' => decide (o'.dst ≠ some d))))
      else (List.range ops.size).all (fun j => !p j || (clo ops 6 (edgesOf ops i)).contains j)) = true := fun i o ho => by
    have hi : i < ops.size := (Array.getElem?_eq_some_iff.1 ho).1
    have := h i (List.mem_range.2 hi)
    simp only [ho, Bool.and_eq_true] at this
    exact this
  refine ⟨fun i o ho => ?_, fun i o ho hp e he hb => ?_, fun i o ho hp => ?_, fun i j o o' ho ho' hp hp' hd => ?_, fun i o ho hp j hj hpj => ?_⟩
  · have := (get i o ho).1
    simpa using this
  · have := (get i o ho).2
    rw [if_pos hp, Bool.and_eq_true] at this
    have h1 := this.1
    rw [Array.all_eq_true_iff_forall_mem] at h1
    have h2 := h1 e he
    rw [hb] at h2
    simpa using h2
  · have := (get i o ho).2
    rw [if_pos hp, Bool.and_eq_true] at this
    have h1 := this.2
    cases hd : o.dst with
    | none => rw [hd] at h1; cases h1
    | some d =>
      rw [hd] at h1
      simp only [Bool.and_eq_true, decide_eq_true_eq] at h1
      exact ⟨d, rfl, h1.1⟩
  · have := (get i o ho).2
    rw [if_pos hp, Bool.and_eq_true] at this
    have h1 := this.2
    cases hdd : o.dst with
    | none => rw [hdd] at h1; cases h1
    | some d =>
      rw [hdd] at h1
      simp only [Bool.and_eq_true] at h1
      have h2 := h1.2
      rw [List.all_eq_true] at h2
      have h3 := h2 j (List.mem_range.2 (Array.getElem?_eq_some_iff.1 ho').1)
      rw [hp', ho'] at h3
      simp only [Bool.not_true, Bool.false_or, Bool.or_eq_true, decide_eq_true_eq] at h3
      rcases h3 with h3 | h3
      · exact h3.symm
      · exact absurd (hd.symm.trans hdd) h3
  · have := (get i o ho).2
    rw [if_neg (by simp [hp]), List.all_eq_true] at this
    have h1 := this j (List.mem_range.2 hj)
    rw [hpj, Bool.not_true, Bool.false_or] at h1
    simpa using h1

/-- behind those that are listed -/
structure LInv (ops : Array Oper) (V : Nat → World → Value → Prop) (w0 : World) (a0 : Act) (L : Nat → Prop) (a : Act) (u : World) : Prop where
  kp : Kp (fun _ => False) w0 u
  val : ∀ (i : Nat) (o : Oper) (d : Nat), ops[i]? = some o → L i → o.dst = some d → V i u (a.tmps.getD d undef)
  off : ∀ s, (∀ (i : Nat) (o : Oper), ops[i]? = some o → L i → o.dst ≠ some s) → a.tmps.getD s undef = a0.tmps.getD s undef
  size : a.tmps.size = a0.tmps.size
  defers : a.defers = a0.defers

theorem put_getD_same {a : Act} {d : Nat} {v : Value} (h : d < a.tmps.size) : (a.put (some d) v).tmps.getD d undef = v := by
  show (a.tmps.setIfInBounds d v).getD d undef = v
  simp [Array.getD_eq_getD_getElem?, h]
theorem put_getD_ne {a : Act} {x : Option Tmp} {d : Nat} {v : Value} (h : x ≠ some d) : (a.put x v).tmps.getD d undef = a.tmps.getD d undef := by
  cases x with
  | none => rfl
  | some e =>
    show (a.tmps.setIfInBounds e v).getD d undef = _
    simp only [Array.getD_eq_getD_getElem?, Array.getElem?_setIfInBounds]
    rw [if_neg (fun h' => h (by rw [h']))]
theorem put_size (a : Act) (x : Option Tmp) (v : Value) : (a.put x v).tmps.size = a.tmps.size := by
  cases x with
  | none => rfl
  | some e => show (a.tmps.setIfInBounds e v).size = _; simp
theorem put_defers (a : Act) (x : Option Tmp) (v : Value) : (a.put x v).defers = a.defers := by cases x <;> rfl

theorem getD_true_false {listed : Array Bool} {i : Nat} (h : i < listed.size) : listed.getD i true = listed.getD i false := by
  simp [Array.getD_eq_getD_getElem?, Array.getElem?_eq_getElem h]

theorem listed_ext {a b : Array Bool} (hs : a.size = b.size) (h : ∀ i, i < a.size → a.getD i false = b.getD i false) : a = b := by
  apply Array.ext hs
  intro i h1 h2
  have := h i h1
  simpa [Array.getD_eq_getD_getElem?, Array.getElem?_eq_getElem h1, Array.getElem?_eq_getElem h2] using this

theorem wpAny_loose {P : Program} {ops : Array Oper} {Q : Exit → Act → World → Prop} {p : Nat → Bool} {V : Nat → World → Value → Prop} {w0 : World} {a0 : Act} {LP : Array Bool} (L : LooseOK ops p a0.tmps.size)
    (stable : ∀ i u u' v, Kp (fun _ => False) u u' → V i u v → V i u' v)
    (hstep : ∀ (i : Nat) (o : Oper), ops[i]? = some o → p i = true → ∀ a u, Kp (fun _ => False) w0 u →
      (∀ s, (∀ (j : Nat) (oj : Oper), ops[j]? = some oj → p j = true → oj.dst ≠ some s) → a.tmps.getD s undef = a0.tmps.getD s undef) →
      (∀ e ∈ o.after, Region.binds .any e = true → ∀ (oj : Oper) (d : Nat), ops[e.on]? = some oj → oj.dst = some d → V e.on u (a.tmps.getD d undef)) →
      o.wp P a u (fun a' u' => ∃ v, a' = a.put o.dst v ∧ Kp (fun _ => False) u u' ∧ V i u' v) Q)
    (hLs : LP.size = ops.size) (hLP : ∀ i, i < ops.size → LP.getD i false = p i)
    (hend : ∀ a u, LInv ops V w0 a0 (fun i => p i = true) a u → wpAny P .any ops Q (cntU ops.size LP) LP a u) :
    ∀ (fuel : Nat) (listed : Array Bool) (a : Act) (u : World), listed.size = ops.size → fuel = cntU ops.size listed → (∀ i, i < ops.size → listed.getD i false = true → p i = true) → (∀ j, listed.getD j false = true → ∀ k, k ∈ edgesOf ops j → listed.getD k false = true) →
      LInv ops V w0 a0 (fun i => listed.getD i false = true) a u → wpAny P .any ops Q fuel listed a u := by
  intro fuel
  induction fuel with
  | zero =>
    intro listed a u hs hf hl hcl hI
    have hall : ∀ i, i < ops.size → listed.getD i false = true := fun i hi => by
      by_cases h : listed.getD i false = true
      · exact h
      · have := cntU_set (listed := listed) (by omega) (by simpa using h) ops.size hi
        omega
    have e : listed = LP := listed_ext (by omega) (fun i hi => by
      rw [hall i (by omega), hLP i (by omega)]
      exact (hl i (by omega) (hall i (by omega))).symm)
    subst e
    have := hend a u ⟨hI.kp, fun i o d ho _ hd => hI.val i o d ho (hall i (Array.getElem?_eq_some_iff.1 ho).1) hd, fun s hs' => hI.off s (fun i o ho hi => hs' i o ho (hl i (Array.getElem?_eq_some_iff.1 ho).1 hi)), hI.size, hI.defers⟩
    rwa [← hf] at this
  | succ fuel ih =>
    intro listed a u hs hf hl hcl hI
    by_cases hall : ∀ i, i < ops.size → p i = true → listed.getD i false = true
    · have e : listed = LP := listed_ext (by omega) (fun i hi => by
        rw [hLP i (by omega)]
        by_cases h : p i = true
        · rw [h, hall i (by omega) h]
        · by_cases h2 : listed.getD i false = true
          · exact absurd (hl i (by omega) h2) h
          · have h3 : p i = false := by simpa using h
            have h4 : listed.getD i false = false := by simpa using h2
            rw [h3, h4])
      subst e
      have := hend a u ⟨hI.kp, fun i o d ho hp hd => hI.val i o d ho (hall i (Array.getElem?_eq_some_iff.1 ho).1 hp) hd, fun s hs' => hI.off s (fun i o ho hi => hs' i o ho (hl i (Array.getElem?_eq_some_iff.1 ho).1 hi)), hI.size, hI.defers⟩
      rwa [← hf] at this
    · obtain ⟨i0, ⟨hi0, hp0, hu0⟩, hmin⟩ := least_of (R := fun i => i < ops.size ∧ p i = true ∧ listed.getD i false = false) (by
        refine Classical.byContradiction fun hno => hall fun i hi hp => ?_
        by_cases h : listed.getD i false = true
        · exact h
        · exact absurd ⟨i, hi, hp, by simpa using h⟩ hno)
      have hready : i0 ∈ Region.ready .any ops listed := by
        rw [mem_ready]
        refine ⟨by rw [getD_true_false (by omega)]; exact hu0, ops[i0], Array.getElem?_eq_getElem hi0, fun e he hb => ?_⟩
        obtain ⟨h1, h2⟩ := L.low i0 _ (Array.getElem?_eq_getElem hi0) hp0 e he hb
        by_cases h : listed.getD e.on false = true
        · exact h
        · exact absurd ⟨by omega, h2, by simpa using h⟩ (hmin e.on h1)
      refine ⟨fun h => (by rw [h] at hready; cases hready), fun i hi => ?_⟩
      obtain ⟨h1, o, ho, hedge⟩ := mem_ready.1 hi
      have hisz : i < ops.size := (Array.getElem?_eq_some_iff.1 ho).1
      rw [getD_true_false (by omega)] at h1
      have hpi : p i = true := by
        by_cases h : p i = true
        · exact h
        · have h3 := clo_listed (listed := fun j => listed.getD j false = true) hcl 6 (edgesOf ops i) (fun k hk => by
            obtain ⟨e, he, hb, hon⟩ := (mem_edgesOf ho).1 hk
            have := hedge e he hb
            rwa [hon] at this) i0 (L.bar i o ho (by simpa using h) i0 hi0 hp0)
          rw [hu0] at h3
          cases h3
      obtain ⟨d, hd, hdN⟩ := L.dst i o ho hpi
      have hw : Region.wanted o (yielded ops a.tmps) = true := by simp [Region.wanted, L.ng i o ho]
      unfold wpOp
      rw [ho]
      simp only
      rw [if_pos hw]
      refine .inl (Oper.wp_mono ?_ (hstep i o ho hpi a u hI.kp (fun s hs' => hI.off s (fun j oj hoj hj => hs' j oj hoj (hl j (Array.getElem?_eq_some_iff.1 hoj).1 hj))) (fun e he hb oj d' hoj hd' => hI.val e.on oj d' hoj (hedge e he hb) hd')))
      rintro a' u' ⟨v, rfl, hK, hV⟩
      have hset : ∀ j, (listed.setIfInBounds i true).getD j false = true ↔ j = i ∨ listed.getD j false = true := fun j => by
        simp only [Array.getD_eq_getD_getElem?, Array.getElem?_setIfInBounds]
        by_cases e : i = j
        · subst e; simp [show i < listed.size by omega]
        · rw [if_neg e]
          exact ⟨.inr, fun h => h.resolve_left (fun h => e h.symm)⟩
      refine ih _ _ _ (by simp [hs]) ?_ (fun j hj hlj => ?_) (fun j hj k hk => ?_) ⟨hI.kp.trans hK (fun _ _ h => h), fun j oj dj hoj hj hdj => ?_, fun s hs' => ?_, by rw [put_size]; exact hI.size, by rw [put_defers]; exact hI.defers⟩
      · have := cntU_set (listed := listed) (by omega) h1 ops.size hisz
        omega
      · rcases (hset j).1 hlj with e | e
        · rw [e]; exact hpi
        · exact hl j hj e
      · rcases (hset j).1 hj with e | e
        · subst e
          obtain ⟨e, he, hb, hon⟩ := (mem_edgesOf ho).1 hk
          refine (hset k).2 (.inr ?_)
          rw [← hon]
          exact hedge e he hb
        · exact (hset k).2 (.inr (hcl j e k hk))
      · rcases (hset j).1 hj with e | e
        · subst e
          have : oj = o := by rw [hoj] at ho; exact Option.some.inj ho
          subst this
          rw [hdj] at hd
          have : dj = d := Option.some.inj hd
          subst this
          rw [hdj, put_getD_same (by rw [hI.size]; exact hdN)]
          exact hV
        · by_cases eji : j = i
          · subst eji
            rw [h1] at e; cases e
          · rw [put_getD_ne (fun h => eji (L.inj j i oj o hoj ho (hl j (Array.getElem?_eq_some_iff.1 hoj).1 e) hpi (by rw [hdj, h])))]
            exact stable j u u' _ hK (hI.val j oj dj hoj e hdj)
      · rw [put_getD_ne (hs' i o ho ((hset i).2 (.inl rfl)))]
        exact hI.off s (fun j oj hoj hj => hs' j oj hoj ((hset j).2 (.inr hj)))

/-- the region, whose last ones (not of p) stay to be walked -/
theorem wp_region_loose {P : Program} {id : Nat} {ops : Array Oper} {Q : Exit → Act → World → Prop} {p : Nat → Bool} {V : Nat → World → Value → Prop} {w : World} {a0 : Act} {LP : Array Bool} {K : Nat} (hm : P.follows .mixedOrders = true) (hB : looseB ops p a0.tmps.size = true)
    (stable : ∀ i u u' v, Kp (fun _ => False) u u' → V i u v → V i u' v)
    (hstep : ∀ (i : Nat) (o : Oper), ops[i]? = some o → p i = true → ∀ a u, Kp (fun _ => False) w u →
      (∀ s, (∀ (j : Nat) (oj : Oper), ops[j]? = some oj → p j = true → oj.dst ≠ some s) → a.tmps.getD s undef = a0.tmps.getD s undef) →
      (∀ e ∈ o.after, Region.binds .any e = true → ∀ (oj : Oper) (d : Nat), ops[e.on]? = some oj → oj.dst = some d → V e.on u (a.tmps.getD d undef)) →
      o.wp P a u (fun a' u' => ∃ v, a' = a.put o.dst v ∧ Kp (fun _ => False) u u' ∧ V i u' v) Q)
    (hLs : LP.size = ops.size) (hLP : ∀ i, i < ops.size → LP.getD i false = p i) (hK : cntU ops.size LP = K)
    (hend : ∀ a u, LInv ops V w a0 (fun i => p i = true) a u → wpAny P .any ops Q K LP a u) : (Code.region id ops true).wp P Q a0 w := by
  refine wp_region_any hm ?_
  refine wpAny_loose (looseB_spec hB) stable hstep hLs hLP (fun a u h => by rw [hK]; exact hend a u h) ops.size _ a0 _ (by simp) ?_ (fun i hi h => ?_) (fun i h => ?_) ⟨(Kp.refl (fun _ => False) w).drew, fun i o d ho h => ?_, fun _ _ => rfl, rfl, rfl⟩
  · have : ∀ n, cntU n (Array.replicate ops.size false) = n := fun n => by
      induction n with
      | zero => rfl
      | succ n ih => rw [cntU_succ, ih]; simp [unl, Array.getD_eq_getD_getElem?, Array.getElem?_replicate]; split <;> simp
    rw [this]
  · simp [Array.getD_eq_getD_getElem?, Array.getElem?_replicate] at h
    split at h <;> simp at h
  · simp [Array.getD_eq_getD_getElem?, Array.getElem?_replicate] at h
    split at h <;> simp at h
  · simp [Array.getD_eq_getD_getElem?, Array.getElem?_replicate] at h
    split at h <;> simp at h

def noDst (ops : Array Oper) (p : Nat → Bool) (s : Nat) : Bool := (List.range ops.size).all fun j => !p j || (match ops[j]? with | none => true | some o => decide (o.dst ≠ some s))
theorem noDst_spec {ops : Array Oper} {p : Nat → Bool} {s : Nat} (h : noDst ops p s = true) : ∀ (j : Nat) (oj : Oper), ops[j]? = some oj → p j = true → oj.dst ≠ some s := by
  intro j oj hj hp
  unfold noDst at h
  rw [List.all_eq_true] at h
  have := h j (List.mem_range.2 (Array.getElem?_eq_some_iff.1 hj).1)
  rw [hp, hj] at this
  simpa using this

theorem slot_at {a : Act} {s : Nat} {v : Value} (h : a.tmps.getD s undef = v) : a.tmps[s]?.getD undef = v := by rw [← Array.getD_eq_getD_getElem?]; exact h

/-- a frame, slot by slot -/
theorem act_list (a : Act) (n : Nat) (h : a.tmps.size = n) : a = ⟨((List.range n).map (fun s => a.tmps.getD s undef)).toArray, a.defers⟩ := by
  obtain ⟨t, ds⟩ := a
  simp only at h
  subst h
  simp only [Act.mk.injEq, and_true]
  apply Array.ext
  · simp
  · intro i h1 h2
    simp [Array.getD_eq_getD_getElem?, Array.getElem?_eq_getElem h1]

end Go.Proofs.YtckmdcmkjmpiaaaGreatDoor

/-
  What the operations of a loose region yield: lists of their own, copies of lists.
-/
namespace Go.Proofs.YtckmdcmkjmpiaaaGreatDoor
open Go Go.RowKit

/-- an empty list of the call's own -/
def LitV (t : TypeId) (u : World) (v : Value) : Prop := ∃ g, v = .slice (some ⟨g, 0, none⟩) 0 0 ∧ Blk u g #[] t
/-- a list of the call's own, of n elements that are the cells cs -/
def LitC (B : Nat) (cs : Array Value) (n : Nat) (t : TypeId) (u : World) (v : Value) : Prop := ∃ g, v = .slice (some ⟨g, 0, none⟩) n n ∧ Blk u g cs t ∧ B ≤ g
/-- a slice that reads ints -/
def SlI (L : List Int) (n : Nat) (u : World) (v : Value) : Prop := ∃ a c, v = .slice a n c ∧ SlOK a n c ∧ IntsAt u a L
/-- a slice that reads rows -/
def SlK (rows : List (List Value)) (n : Nat) (u : World) (v : Value) : Prop := ∃ a c, v = .slice a n c ∧ SlOK a n c ∧ RowAt u a rows.flatten
def EqV (x : Value) (_ : World) (v : Value) : Prop := v = x
def AnyV (_ : World) (_ : Value) : Prop := True

def Stable (V : World → Value → Prop) : Prop := ∀ u u' v, Kp (fun _ => False) u u' → V u v → V u' v
theorem LitV.st (t : TypeId) : Stable (LitV t) := fun _ _ _ k ⟨g, h1, h2⟩ => ⟨g, h1, h2.kp k (fun h => h)⟩
theorem LitC.st (B : Nat) (cs : Array Value) (n : Nat) (t : TypeId) : Stable (LitC B cs n t) := fun _ _ _ k ⟨g, h1, h2, h3⟩ => ⟨g, h1, h2.kp k (fun h => h), h3⟩
theorem SlI.st (L : List Int) (n : Nat) : Stable (SlI L n) := fun _ _ _ k ⟨a, c, h1, h2, h3⟩ => ⟨a, c, h1, h2, h3.kp k (fun _ _ h => h)⟩
theorem SlK.st (L : List (List Value)) (n : Nat) : Stable (SlK L n) := fun _ _ _ k ⟨a, c, h1, h2, h3⟩ => ⟨a, c, h1, h2, h3.kp k (fun _ _ h => h)⟩
theorem EqV.st (x : Value) : Stable (EqV x) := fun _ _ _ _ h => h
theorem AnyV.st : Stable AnyV := fun _ _ _ _ _ => trivial

/-- a slice that reads rows, in memory from B on -/
def SlF (B : Nat) (rows : List (List Value)) (n : Nat) (u : World) (v : Value) : Prop := ∃ a c, v = .slice a n c ∧ SlOK a n c ∧ RowAt u a rows.flatten ∧ (rows ≠ [] → ∀ p, a = some p → B ≤ p.block)
theorem SlF.st (B : Nat) (L : List (List Value)) (n : Nat) : Stable (SlF B L n) := fun _ _ _ k ⟨a, c, h1, h2, h3, h4⟩ => ⟨a, c, h1, h2, h3.kp k (fun _ _ h => h), h4⟩
theorem SlF.kp {B n : Nat} {rows : List (List Value)} {S : Nat → Prop} {u u' : World} {v : Value} (h : SlF B rows n u v) (k : Kp S u u') (hS : ∀ j, S j → j < B) : SlF B rows n u' v := by
  obtain ⟨a, c, h1, h2, h3, h4⟩ := h
  refine ⟨a, c, h1, h2, ?_, h4⟩
  by_cases hn : rows = []
  · subst hn; exact RowAt.nil _ _
  · exact h3.kp k (fun p hp hs => by have := h4 hn p hp; have := hS _ hs; omega)
theorem SlF.low {B B' n : Nat} {rows : List (List Value)} {u : World} {v : Value} (h : SlF B rows n u v) (hb : B' ≤ B) : SlF B' rows n u v := by
  obtain ⟨a, c, h1, h2, h3, h4⟩ := h
  exact ⟨a, c, h1, h2, h3, fun hn p hp => Nat.le_trans hb (h4 hn p hp)⟩
theorem SlF.row {B n : Nat} {rows : List (List Value)} {u : World} {a : Option Addr} {c : Nat} (h : SlF B rows n u (.slice a n c)) : SlOK a n c ∧ RowAt u a rows.flatten := by
  obtain ⟨a2, c2, e, h2, h3, _⟩ := h
  simp only [Value.slice.injEq, true_and] at e
  obtain ⟨rfl, rfl⟩ := e
  exact ⟨h2, h3⟩

theorem ownForm {w : World} {base : Nat} {e : TypeId} {v : Value} {cs : List Value} (h : Own w base e v cs) : ∃ a cap, v = .slice a cs.length cap ∧ cs.length ≤ cap ∧ cap ≤ maxLen ∧ (a = none → cap = 0) ∧ (∀ p, a = some p → base ≤ p.block) ∧ RowAt w a cs := by
  rcases h.2 with ⟨rfl, hn⟩ | ⟨g, cap, cur, rfl, hb, hg, hnc, hcm, hcs, htake⟩
  · have : cs = [] := List.eq_nil_of_length_eq_zero hn
    subst this
    exact ⟨none, 0, rfl, Nat.le_refl _, Nat.zero_le _, fun _ => rfl, fun p hp => (by cases hp), RowAt.nil _ _⟩
  · have hB : Blk w g cur e := hg
    exact ⟨_, cap, rfl, hnc, hcm, (fun h => by cases h), fun p hp => by simp at hp; subst hp; exact hb, hB.rowAt (off := 0) (n := cs.length * 1) (by simpa using htake)⟩

/-- a list of predicates, by places -/
def atV (Vs : List (World → Value → Prop)) (i : Nat) : World → Value → Prop := Vs.getD i AnyV
theorem atV_st {Vs : List (World → Value → Prop)} (h : ∀ V ∈ Vs, Stable V) : ∀ i u u' v, Kp (fun _ => False) u u' → atV Vs i u v → atV Vs i u' v := by
  intro i u u' v k
  unfold atV
  rw [List.getD_eq_getElem?_getD]
  cases hi : Vs[i]? with
  | none => exact fun _ => trivial
  | some V => exact h V (List.mem_of_getElem? hi) u u' v k

theorem lit_append {P : Program} {u : World} {t ty e : TypeId} {z : Value} {k bytes g : Nat} (ht : P.underlying t = some (.slice e)) (hI : (P.info? e).map (fun i => (i.zero, i.size, i.bytes)) = some (some z, k, bytes)) (hzs : z.cells.size = k) (hk : 0 < k)
    (hB : Blk u g #[] e) {src : Option Addr} {n c : Nat} {rows : List (List Value)} (hn : rows.length = n) (hl : ∀ r ∈ rows, r.length = k) (h1 : ∀ r ∈ rows, ∀ x ∈ r, x.oneCell' = true) (hr : RowAt u src rows.flatten) (ho : SlOK src n c) (hm : n ≤ maxLen) (hb : n * bytes ≤ 140737488355328) :
    ∃ v' u', (Builtin.append_ #[t, t] ty #[.slice (some ⟨g, 0, none⟩) 0 0, .slice src n c]).run P u = .ok v' u' ∧ SlF u.heap.size rows n u' v' ∧ Kp (fun _ => False) u u' := by
  obtain ⟨i0, hi, hz0, hz1, hz2⟩ := info_parts hI
  have hfl : rows.flatten.length = n * k := by rw [flat_length hl, hn]
  have hone : ∀ x ∈ rows.flatten, x.oneCell' = true := fun x hx => by
    obtain ⟨r, hr, hxr⟩ := List.mem_flatten.1 hx
    exact h1 r hr x hxr
  have hOwn : OwnK u g e k (.slice (some ⟨g, 0, none⟩) 0 0) [] := OwnK.lit (rows := []) hB (Nat.le_refl _) (fun r h => by cases h) (Nat.zero_le _)
  cases src with
  | none =>
    have hc := ho.nil rfl
    have hn0 : n = 0 := by have := ho.le; omega
    subst hc hn0
    have hrw : rows = [] := List.eq_nil_of_length_eq_zero hn
    subst hrw
    refine ⟨.slice (some ⟨g, 0, none⟩) 0 0, u, run_append_owned_none (P := P) (w := u) g t ty e i0 k ht hi _ 0 [] hOwn.own, ⟨some ⟨g, 0, none⟩, 0, rfl, ⟨Nat.le_refl _, Nat.zero_le _, fun h => by cases h⟩, RowAt.nil _ _, fun h => absurd rfl h⟩, Kp.refl _ _⟩
  | some ad =>
    have hcells : ∀ j x, rows.flatten[j]? = some x → u.cell? (ad.add j) = some x := fun j x hj => by
      obtain ⟨b, off, hab, hc⟩ := hr j x hj
      simp only [Option.some.injEq] at hab
      subst hab
      rw [add_plain']
      exact hc
    by_cases hn0 : n = 0
    · subst hn0
      have hrw : rows = [] := List.eq_nil_of_length_eq_zero hn
      subst hrw
      have hrun := run_append_room_cells (P := P) (w := u) t ty e i0 ht hi g 0 0 0 ad 0 c [] (by simp) (fun j x hj => by simp at hj) (fun x hx => by cases hx) (Nat.le_refl _) (fun j hj => by simp at hj) (fun j hj => by simp at hj)
      refine ⟨_, _, hrun, ⟨some ⟨g, 0, none⟩, 0, rfl, ⟨Nat.le_refl _, Nat.zero_le _, fun h => by cases h⟩, RowAt.nil _ _, fun h => absurd rfl h⟩, ?_⟩
      exact Kp.refl _ _
    · obtain ⟨v', u', hrun, hown, hg⟩ := run_append_arg_grows (P := P) (w := u) t ty e i0 z k bytes ht hi hz0 hz1 hz2 hzs hk ⟨g, 0, none⟩ 0 0 [] (by simp) (fun j x hj => by simp at hj) ad n c rows.flatten hfl hcells (by omega) (by omega) (by rw [Nat.zero_add]; exact hb)
      have hO : OwnK u' u.heap.size e k v' rows := ⟨by simpa [hn] using hown, hl⟩
      obtain ⟨a, c', e1, h2, h3, h4, h5, h6⟩ := hO.form
      rw [hn] at e1 h2
      exact ⟨v', u', hrun, ⟨a, c', e1, ⟨h2, h3, h4⟩, h6, fun _ p hp => by obtain ⟨g', rfl, hb', -⟩ := h5 p hp; exact hb'⟩, (Kp.refl (fun _ => False) u).grown hg (fun j hj _ => by cases hj)⟩

/-- the last operations of a region, that stand in one order -/
theorem wpAny_tail {P : Program} {l : List Oper} {Q : Exit → Act → World → Prop} (n : Nat) {LP : Array Bool} {a : Act} {u : World} {K : Nat} (hK : (l.drop n).length = K) (hB : Region.seqB .any l.toArray K n LP = true) (h : wpList P l.toArray Q (l.drop n) a u) : wpAny P .any l.toArray Q K LP a u := by
  subst hK
  exact wpAny_of_seq (md := .any) (Q' := Q) (l.drop n) n LP a u (fun j => by simp [List.getElem?_drop]) hB h

theorem lw_append {P : Program} {o : Oper} {a : Act} {u : World} {Q : Exit → Act → World → Prop} (s x : Operand) (t e : TypeId) (hop : o.op = .call { callee := .builtin .append, args := #[s, x], argTypes := #[t, t] }) {z : Value} {k bytes : Nat}
    (ht : P.underlying t = some (.slice e)) (hI : (P.info? e).map (fun i => (i.zero, i.size, i.bytes)) = some (some z, k, bytes)) (hzs : z.cells.size = k) (hk : 0 < k)
    (hs : LitV e u (a.eval s)) {rows : List (List Value)} {n : Nat} (hx : SlK rows n u (a.eval x)) (hn : rows.length = n) (hl : ∀ r ∈ rows, r.length = k) (h1 : ∀ r ∈ rows, ∀ y ∈ r, y.oneCell' = true) (hm : n ≤ maxLen) (hb : n * bytes ≤ 140737488355328) {B : Nat} (hBu : B ≤ u.heap.size) :
    o.wp P a u (fun a' u' => ∃ v, a' = a.put o.dst v ∧ Kp (fun _ => False) u u' ∧ SlF B rows n u' v) Q := by
  obtain ⟨g, hg, hB⟩ := hs
  obtain ⟨src, c, hsrc, hok, hr⟩ := hx
  obtain ⟨v', u', hrun, hS, hK⟩ := lit_append (P := P) (u := u) (t := t) (ty := o.type) ht hI hzs hk hB hn hl h1 hr hok hm hb
  unfold Oper.wp execOp
  simp only [hop, resolve, invoke, builtin, Sem.run_bind, Sem.run_pure, Result.andThen_ok, List.map_toArray, List.map_cons, List.map_nil, hg, hsrc, hrun]
  obtain ⟨a1, c1, q1, q2, q3, q4⟩ := hS
  exact ⟨v', rfl, hK, a1, c1, q1, q2, q3, fun hn p hp => Nat.le_trans hBu (q4 hn p hp)⟩



def upTo (n i : Nat) : Bool := decide (i < n)

theorem upTo_spec {n m : Nat} {LP : Array Bool} (h : (List.range m).all (fun i => LP.getD i false == upTo n i) = true) : ∀ i, i < m → LP.getD i false = upTo n i := by
  intro i hi
  rw [List.all_eq_true] at h
  have := h i (List.mem_range.2 hi)
  simpa using this

/-- ints as rows of one -/
def ir (L : List Int) : List (List Value) := L.map (fun x => [Value.int .i64 x])
theorem ir_flat (L : List Int) : (ir L).flatten = L.map (Value.int .i64) := by
  unfold ir
  rw [← flat_ones (L.map (Value.int .i64)), List.map_map]
  rfl
theorem ir_len (L : List Int) : ∀ r ∈ ir L, r.length = 1 := fun r hr => by obtain ⟨x, _, rfl⟩ := List.mem_map.1 hr; rfl
theorem ir_one (L : List Int) : ∀ r ∈ ir L, ∀ y ∈ r, y.oneCell' = true := fun r hr y hy => by
  obtain ⟨x, _, rfl⟩ := List.mem_map.1 hr
  simp at hy; subst hy; rfl
theorem ir_length (L : List Int) : (ir L).length = L.length := List.length_map ..
theorem SlK.of_ints {L : List Int} {n : Nat} {u : World} {a : Option Addr} {c : Nat} (h2 : SlOK a n c) (h3 : IntsAt u a L) : SlK (ir L) n u (.slice a n c) := ⟨a, c, rfl, h2, by rw [ir_flat]; exact h3⟩

/-- a call of what makes memory of its own -/
theorem lw_call {P : Program} {o : Oper} {a : Act} {u : World} {Q : Exit → Act → World → Prop} {V : World → Value → Prop} {f : FuncId} {args : Array Value} (h : (execOp a.eval o).run P u = .ok (.enter f args) u)
    (hc : Calls P f args u fun e u' => ∃ v, e = .returned v ∧ Kp (fun _ => False) u u' ∧ V u' v) : o.wp P a u (fun a' u' => ∃ v, a' = a.put o.dst v ∧ Kp (fun _ => False) u u' ∧ V u' v) Q := by
  unfold Oper.wp
  rw [h]
  refine hc.mono ?_
  rintro e u' ⟨v, rfl, hK, hV⟩
  exact ⟨v, rfl, hK, hV⟩

theorem lw_value {P : Program} {o : Oper} {a : Act} {u u' : World} {Q : Exit → Act → World → Prop} {V : World → Value → Prop} {v : Value} (h : (execOp a.eval o).run P u = .ok (.value v) u') (hK : Kp (fun _ => False) u u') (hV : V u' v) :
    o.wp P a u (fun a' u' => ∃ v, a' = a.put o.dst v ∧ Kp (fun _ => False) u u' ∧ V u' v) Q := by
  unfold Oper.wp
  rw [h]
  exact ⟨v, rfl, hK, hV⟩

end Go.Proofs.YtckmdcmkjmpiaaaGreatDoor

/-
  latchetref11.Used.
-/
namespace Go.Proofs.YtckmdcmkjmpiaaaGreatDoor
open Go.RowKit

/-- a list of the call's own beside its circuit -/
def GrowRel (V : CV) (C : Circ) (w : World) (P : List Int) (v : Value) (wr : World) : Prop :=
  Own wr w.heap.size 3 v (iv P) ∧ (∀ j, v.ownBlock = some j → w.heap.size < j) ∧ Blk wr w.heap.size (cvals V C) 27 ∧ Kp (fun _ => False) w wr

theorem GrowRel.grow {V : CV} {C : Circ} {w wr wr' w2 : World} {P N : List Int} {v v' : Value} (h : GrowRel V C w P v wr) (hK : Kp (fun _ => False) wr wr') (hO : Own w2 w.heap.size 3 v' (iv P ++ iv N)) (hg : wr'.grownBy w2 v.ownBlock) (hat : v'.ownBlock = v.ownBlock ∨ v'.ownBlock = some wr'.heap.size) : GrowRel V C w (P ++ N) v' w2 := by
  obtain ⟨h1, h2, h3, h4⟩ := h
  have hlt := h3.lt
  have hsz := hK.size
  refine ⟨by rw [iv_append]; exact hO, fun j hj => ?_, (h3.kp hK (fun h => h)).kp ((Kp.refl (fun j => v.ownBlock = some j) _).grown hg (fun j hj _ => hj)) (fun e => by have := h2 _ e; omega), (h4.trans hK (fun _ _ h => h)).grown hg (fun j hj hl => by have := h2 j hj; omega)⟩
  rcases hat with e | e
  · exact h2 j (e ▸ hj)
  · rw [e] at hj; simp at hj; omega

theorem GrowRel.fr {V : CV} {C : Circ} {w wr wr' : World} {P : List Int} {v : Value} (h : GrowRel V C w P v wr) (hK : Kp (fun _ => False) wr wr') : GrowRel V C w P v wr' :=
  ⟨h.1.kp hK (fun _ _ h => h), h.2.1, h.2.2.1.kp hK (fun h => h), h.2.2.2.trans hK (fun _ _ h => h)⟩

end Go.Proofs.YtckmdcmkjmpiaaaGreatDoor

/-
  Scores' order, and a tree in a list in that order. No program in sight.
-/
namespace Go.Proofs.YtckmdcmkjmpiaaaGreatDoor
open Ieee

/-- a key that tells a word's order: what is no number first -/
def fk (x : Nat) : Int × Int :=
  match double.read x with
  | .nan .. => (-2, 0)
  | .infinity true => (-1, 0)
  | .infinity false => (1, 0)
  | .number s m i => (0, signed s m (i - double.leastPlace).toNat)

def klt (a b : Int × Int) : Prop := a.1 < b.1 ∨ a.1 = b.1 ∧ a.2 < b.2
instance (a b : Int × Int) : Decidable (klt a b) := inferInstanceAs (Decidable (_ ∨ _))

theorem read_place {x : Nat} {s : Bool} {m : Nat} {i : Int} (h : double.read x = .number s m i) : double.leastPlace ≤ i := by
  unfold Format.read at h
  simp only at h
  split at h
  · simp only [Datum.number.injEq] at h; omega
  · split at h
    · simp only [Datum.number.injEq] at h; omega
    · split at h <;> cases h

theorem signed_up (s : Bool) (m a b : Nat) : signed s m (a + b) = signed s m a * (2 ^ b : Nat) := by
  unfold signed
  have : m <<< (a + b) = (m <<< a) * 2 ^ b := by simp [Nat.shiftLeft_eq, Nat.pow_add, Nat.mul_assoc]
  rw [this]
  cases s <;> simp [Int.neg_mul]

theorem compare_up {x y : Int} {p : Nat} (hp : 0 < p) : compare (x * (p : Int)) (y * (p : Int)) = compare x y := by
  have hp' : (0 : Int) < p := by omega
  rcases Int.lt_trichotomy x y with h | h | h
  · rw [(Int.compare_eq_lt).2 h, (Int.compare_eq_lt).2 (Int.mul_lt_mul_of_pos_right h hp')]
  · subst h; simp
  · rw [(Int.compare_eq_gt).2 h, (Int.compare_eq_gt).2 (Int.mul_lt_mul_of_pos_right h hp')]

/-- the order of two words that are numbers, infinities too -/
theorem order_key (x y : Nat) : double.order x y = if (fk x).1 = -2 ∨ (fk y).1 = -2 then none else some (if klt (fk x) (fk y) then .lt else if klt (fk y) (fk x) then .gt else .eq) := by
  unfold Format.order fk
  have hpx := @read_place x
  have hpy := @read_place y
  generalize double.read x = dx at *
  generalize double.read y = dy at *
  cases dx with
  | nan => simp [Datum.order]
  | infinity s =>
    cases dy with
    | nan => cases s <;> simp [Datum.order]
    | infinity t => cases s <;> cases t <;> simp [Datum.order, klt] <;> rfl
    | number t n j => cases s <;> simp [Datum.order, klt]
  | number s m i =>
    cases dy with
    | nan => simp [Datum.order]
    | infinity t => cases t <;> simp [Datum.order, klt]
    | number t n j =>
      have h1 := hpx rfl
      have h2 := hpy rfl
      generalize double.leastPlace = L at *
      simp only [Datum.order, klt]
      have e1 : (i - L).toNat = (i - min i j).toNat + (min i j - L).toNat := by omega
      have e2 : (j - L).toNat = (j - min i j).toNat + (min i j - L).toNat := by omega
      rw [e1, e2, signed_up, signed_up, ← compare_up (p := 2 ^ (min i j - L).toNat) (Nat.two_pow_pos _)]
      generalize signed s m (i - min i j).toNat * ((2 ^ (min i j - L).toNat : Nat) : Int) = a
      generalize signed t n (j - min i j).toNat * ((2 ^ (min i j - L).toNat : Nat) : Int) = b
      rcases Int.lt_trichotomy a b with h | h | h
      · rw [(Int.compare_eq_lt).2 h]; simp [h]
      · subst h; simp
      · rw [(Int.compare_eq_gt).2 h]; simp [h]; omega

theorem fk_ge (x : Nat) : -2 ≤ (fk x).1 ∧ ((fk x).1 = -2 → (fk x).2 = 0) := by
  unfold fk
  split <;> simp

theorem self_order (x : Nat) : (double.order x x == some .eq) = decide ((fk x).1 ≠ -2) := by
  rw [order_key]
  by_cases h : (fk x).1 = -2
  · simp [h]
  · simp [h, klt]

/-- one stands ahead of another one -/
def lessB (a b : Nat) : Bool := decide (klt (fk a) (fk b))

theorem less_lt {a b : Nat} (ha : (fk a).1 ≠ -2) (hb : (fk b).1 ≠ -2) : (double.order a b == some .lt) = lessB a b := by
  rw [order_key, if_neg (by omega)]
  unfold lessB
  by_cases h : klt (fk a) (fk b)
  · simp [h]
  · by_cases h2 : klt (fk b) (fk a) <;> simp [h, h2]

theorem less_odd {a b : Nat} (h : (fk a).1 = -2 ∨ (fk b).1 = -2) : (decide ((fk a).1 = -2) && decide ((fk b).1 ≠ -2)) = lessB a b := by
  have ha := fk_ge a
  have hb := fk_ge b
  unfold lessB klt
  rw [← Bool.decide_and]
  apply decide_eq_decide.2
  omega

/-- a thing stands ahead of another one, by scores -/
def aheadB (S : Nat → Nat) (a b : Nat) : Bool := lessB (S b) (S a) || (!lessB (S a) (S b) && decide (a < b))

/-- an order as a heap needs it -/
structure Ord (A : Nat → Nat → Prop) : Prop where
  asym : ∀ {a b}, A a b → ¬ A b a
  neg : ∀ {a b c}, ¬ A b a → ¬ A c b → ¬ A c a
  irr : ∀ {a}, ¬ A a a
  tot : ∀ {a b}, a ≠ b → ¬ A a b → A b a

def ah (S : Nat → Nat) (a b : Nat) : Prop := aheadB S a b = true

theorem ah_iff (S : Nat → Nat) (a b : Nat) : ah S a b ↔ klt (fk (S b)) (fk (S a)) ∨ ¬ klt (fk (S a)) (fk (S b)) ∧ a < b := by
  simp [ah, aheadB, lessB]

theorem ah_ord (S : Nat → Nat) : Ord (ah S) := by
  constructor
  · intro a b h
    rw [ah_iff] at h ⊢
    unfold klt at *
    omega
  · intro a b c h h'
    rw [ah_iff] at h h' ⊢
    unfold klt at *
    omega
  · intro a
    rw [ah_iff]
    unfold klt
    omega
  · intro a b hne h
    rw [ah_iff] at h ⊢
    unfold klt at *
    omega

/-- two places change -/
def sw (T : Nat → Nat) (i k : Nat) : Nat → Nat := fun j => if j = i then T k else if j = k then T i else T j

def HeapOK (A : Nat → Nat → Prop) (T : Nat → Nat) (m : Nat) : Prop := ∀ j, 0 < j → j < m → ¬ A (T j) (T ((j - 1) / 2))

/-- all is right but for what touches place i, and what is below it is right with what is above it -/
structure Weak (A : Nat → Nat → Prop) (T : Nat → Nat) (m i : Nat) : Prop where
  off : ∀ j, 0 < j → j < m → j ≠ i → (j - 1) / 2 ≠ i → ¬ A (T j) (T ((j - 1) / 2))
  over : ∀ j, 0 < j → j < m → (j - 1) / 2 = i → 0 < i → ¬ A (T j) (T ((i - 1) / 2))

def UpOK (A : Nat → Nat → Prop) (T : Nat → Nat) (i : Nat) : Prop := 0 < i → ¬ A (T i) (T ((i - 1) / 2))
def DownOK (A : Nat → Nat → Prop) (T : Nat → Nat) (m i : Nat) : Prop := ∀ j, 0 < j → j < m → (j - 1) / 2 = i → ¬ A (T j) (T i)

theorem ok_of {A : Nat → Nat → Prop} {T : Nat → Nat} {m i : Nat} (h : Weak A T m i) (hu : UpOK A T i) (hd : DownOK A T m i) : HeapOK A T m := by
  intro j h0 hj
  by_cases e : j = i
  · subst e; exact hu h0
  · by_cases e2 : (j - 1) / 2 = i
    · rw [e2]; exact hd j h0 hj e2
    · exact h.off j h0 hj e e2

theorem sw_l (T : Nat → Nat) (i k : Nat) : sw T i k i = T k := by simp [sw]
theorem sw_r (T : Nat → Nat) (i k : Nat) : sw T i k k = T i := by by_cases h : k = i <;> simp [sw, h]
theorem sw_o {T : Nat → Nat} {i k j : Nat} (h1 : j ≠ i) (h2 : j ≠ k) : sw T i k j = T j := by simp [sw, h1, h2]

theorem up_step {A : Nat → Nat → Prop} (hA : Ord A) {T : Nat → Nat} {m i p : Nat} (h : Weak A T m i) (hi0 : 0 < i) (hp : p = (i - 1) / 2) (hi : i < m) (ha : A (T i) (T p)) :
    Weak A (sw T i p) m p ∧ DownOK A (sw T i p) m p := by
  have hpi : p < i := by omega
  refine ⟨⟨fun j h0 hj hjp hpp => ?_, fun j h0 hj hpp hp0 => ?_⟩, fun j h0 hj hpp => ?_⟩
  · have hji : j ≠ i := fun e => hpp (by rw [e]; exact hp.symm)
    rw [sw_o hji hjp]
    by_cases e : (j - 1) / 2 = i
    · rw [e, sw_l, hp]; exact h.over j h0 hj e hi0
    · rw [sw_o e hpp]; exact h.off j h0 hj hji e
  · rw [sw_o (j := (p - 1) / 2) (by omega) (by omega)]
    have h1 : ¬ A (T p) (T ((p - 1) / 2)) := h.off p hp0 (by omega) (by omega) (by omega)
    by_cases e : j = i
    · subst e; rw [sw_l]; exact h1
    · rw [sw_o e (by omega)]
      have h2 := h.off j h0 hj e (by omega)
      rw [hpp] at h2
      exact hA.neg h1 h2
  · rw [sw_r]
    by_cases e : j = i
    · subst e; rw [sw_l]; exact hA.asym ha
    · rw [sw_o e (by omega)]
      have h2 := h.off j h0 hj e (by omega)
      rw [hpp] at h2
      exact hA.neg (hA.asym ha) h2

theorem down_step {A : Nat → Nat → Prop} (hA : Ord A) {T : Nat → Nat} {m i f : Nat} (h : Weak A T m i) (hf0 : 0 < f) (hf : f < m) (hp : (f - 1) / 2 = i) (ha : A (T f) (T i)) (hfirst : ∀ j, 0 < j → j < m → (j - 1) / 2 = i → ¬ A (T j) (T f)) :
    Weak A (sw T i f) m f ∧ UpOK A (sw T i f) f := by
  have hfi : i < f := by omega
  refine ⟨⟨fun j h0 hj hjf hpf => ?_, fun j h0 hj hpf _ => ?_⟩, fun _ => ?_⟩
  · by_cases e : j = i
    · subst e
      rw [sw_l, sw_o (by omega) (by omega)]
      exact h.over f hf0 hf hp h0
    · rw [sw_o e hjf]
      by_cases e2 : (j - 1) / 2 = i
      · rw [e2, sw_l]; exact hfirst j h0 hj e2
      · rw [sw_o e2 hpf]; exact h.off j h0 hj e e2
  · rw [hp, sw_l, sw_o (by omega) (by omega)]
    have := h.off j h0 hj (by omega) (by omega)
    rw [hpf] at this
    exact this
  · rw [hp, sw_l, sw_r]; exact hA.asym ha

theorem root_first {A : Nat → Nat → Prop} (hA : Ord A) {T : Nat → Nat} {m : Nat} (h : HeapOK A T m) : ∀ j, j < m → ¬ A (T j) (T 0) := by
  intro j
  induction j using Nat.strongRecOn with
  | _ j ih =>
    intro hj
    by_cases e : j = 0
    · subst e; exact hA.irr
    · exact hA.neg (ih ((j - 1) / 2) (by omega) (by omega)) (h j (by omega) hj)

theorem pop_weak {A : Nat → Nat → Prop} {T : Nat → Nat} {m : Nat} (h : HeapOK A T (m + 1)) : Weak A (sw T 0 m) m 0 ∧ UpOK A (sw T 0 m) 0 := by
  refine ⟨⟨fun j h0 hj h1 h2 => ?_, fun j _ _ _ h => by omega⟩, fun h => by omega⟩
  rw [sw_o (by omega) (by omega), sw_o h2 (by omega)]
  exact h j h0 (by omega)

/-- where things stand, and which stand there -/
structure Inv (n m : Nat) (T : Nat → Nat) (Q : Nat → Int) : Prop where
  here : ∀ i, i < m → T i < n ∧ Q (T i) = i
  there : ∀ x, x < n → Q x = -1 ∨ ∃ i, i < m ∧ Q x = i ∧ T i = x

def up1 {α : Type} (f : Nat → α) (i : Nat) (x : α) : Nat → α := fun j => if j = i then x else f j

theorem up1_at {α : Type} (f : Nat → α) (i : Nat) (x : α) : up1 f i x i = x := by simp [up1]
theorem up1_off {α : Type} (f : Nat → α) {i j : Nat} (x : α) (h : j ≠ i) : up1 f i x j = f j := by simp [up1, h]

theorem Inv.inj {n m : Nat} {T : Nat → Nat} {Q : Nat → Int} (h : Inv n m T Q) {i k : Nat} (hi : i < m) (hk : k < m) (e : T i = T k) : i = k := by
  have h1 := (h.here i hi).2
  have h2 := (h.here k hk).2
  rw [e] at h1
  omega

/-- the positions behind a change of two places -/
def swQ (T : Nat → Nat) (Q : Nat → Int) (i k : Nat) : Nat → Int := up1 (up1 Q (sw T i k i) (i : Int)) (sw T i k k) (k : Int)

theorem Inv.swap {n m : Nat} {T : Nat → Nat} {Q : Nat → Int} (h : Inv n m T Q) {i k : Nat} (hi : i < m) (hk : k < m) : Inv n m (sw T i k) (swQ T Q i k) := by
  unfold swQ
  rw [sw_l, sw_r]
  refine ⟨fun j hj => ?_, fun x hx => ?_⟩
  · by_cases e1 : j = k
    · subst e1; rw [sw_r, up1_at]; exact ⟨(h.here i hi).1, rfl⟩
    · by_cases e2 : j = i
      · subst e2
        rw [sw_l, up1_off _ _ (fun e => e1 (h.inj hj hk e.symm)), up1_at]
        exact ⟨(h.here k hk).1, rfl⟩
      · rw [sw_o e2 e1, up1_off _ _ (fun e => e2 (h.inj hj hi e)), up1_off _ _ (fun e => e1 (h.inj hj hk e))]
        exact h.here j hj
  · by_cases e1 : x = T i
    · subst e1; rw [up1_at]; exact .inr ⟨k, hk, rfl, sw_r ..⟩
    · rw [up1_off _ _ e1]
      by_cases e2 : x = T k
      · subst e2; rw [up1_at]; exact .inr ⟨i, hi, rfl, sw_l ..⟩
      · rw [up1_off _ _ e2]
        rcases h.there x hx with h1 | ⟨j, hj, h1, h2⟩
        · exact .inl h1
        · refine .inr ⟨j, hj, h1, ?_⟩
          rw [sw_o (fun e => e1 (by rw [← h2, e])) (fun e => e2 (by rw [← h2, e]))]
          exact h2

/-- one more at the end -/
theorem Inv.push {n m : Nat} {T : Nat → Nat} {Q : Nat → Int} (h : Inv n m T Q) {x : Nat} (hx : x < n) (hq : Q x < 0) : Inv n (m + 1) (up1 T m x) (up1 Q x (m : Int)) := by
  have hno : ∀ i, i < m → T i ≠ x := fun i hi e => by have := (h.here i hi).2; rw [e] at this; omega
  refine ⟨fun i hi => ?_, fun y hy => ?_⟩
  · by_cases e : i = m
    · subst e; rw [up1_at, up1_at]; exact ⟨hx, rfl⟩
    · rw [up1_off _ _ e, up1_off _ _ (hno i (by omega))]; exact h.here i (by omega)
  · by_cases e : y = x
    · subst e; rw [up1_at]; exact .inr ⟨m, by omega, rfl, up1_at ..⟩
    · rw [up1_off _ _ e]
      rcases h.there y hy with h1 | ⟨j, hj, h1, h2⟩
      · exact .inl h1
      · exact .inr ⟨j, by omega, h1, by rw [up1_off _ _ (by omega)]; exact h2⟩

/-- the last one is let go -/
theorem Inv.drop {n m : Nat} {T : Nat → Nat} {Q : Nat → Int} (h : Inv n (m + 1) T Q) : Inv n m T (up1 Q (T m) (-1)) := by
  refine ⟨fun i hi => ?_, fun y hy => ?_⟩
  · have hne : T i ≠ T m := fun e => by have := h.inj (show i < m + 1 by omega) (show m < m + 1 by omega) e; omega
    rw [up1_off _ _ hne]
    exact h.here i (by omega)
  · by_cases e : y = T m
    · subst e; rw [up1_at]; exact .inl rfl
    · rw [up1_off _ _ e]
      rcases h.there y hy with h1 | ⟨j, hj, h1, h2⟩
      · exact .inl h1
      · refine .inr ⟨j, ?_, h1, h2⟩
        have : j ≠ m := fun e2 => e (by rw [← h2, e2])
        omega

/-- all that stands in the one stands in the other -/
def Sub (T' : Nat → Nat) (m' : Nat) (T : Nat → Nat) (m : Nat) : Prop := ∀ j, j < m' → ∃ k, k < m ∧ T' j = T k

theorem Sub.refl (T : Nat → Nat) (m : Nat) : Sub T m T m := fun j h => ⟨j, h, rfl⟩
theorem Sub.trans {T1 T2 T3 : Nat → Nat} {a b c : Nat} (h : Sub T1 a T2 b) (h' : Sub T2 b T3 c) : Sub T1 a T3 c := fun j hj => by
  obtain ⟨k, hk, e⟩ := h j hj
  obtain ⟨l, hl, e'⟩ := h' k hk
  exact ⟨l, hl, e.trans e'⟩
theorem Sub.sw {T : Nat → Nat} {m i k : Nat} (hi : i < m) (hk : k < m) : Sub (sw T i k) m T m := fun j hj => by
  by_cases e1 : j = i
  · subst e1; exact ⟨k, hk, sw_l ..⟩
  · by_cases e2 : j = k
    · subst e2; exact ⟨i, hi, sw_r ..⟩
    · exact ⟨j, hj, sw_o e1 e2⟩

theorem push_weak {A : Nat → Nat → Prop} {T : Nat → Nat} {m x : Nat} (h : HeapOK A T m) : Weak A (up1 T m x) (m + 1) m ∧ DownOK A (up1 T m x) (m + 1) m := by
  refine ⟨⟨fun j h0 hj h1 h2 => ?_, fun j _ hj h1 h2 => by omega⟩, fun j _ hj h1 => by omega⟩
  rw [up1_off _ _ h1, up1_off _ _ h2]
  exact h j h0 (by omega)

end Go.Proofs.YtckmdcmkjmpiaaaGreatDoor

/-
  A heap in memory; score.Less, ahead, swap.
-/
namespace Go.Proofs.YtckmdcmkjmpiaaaGreatDoor
open Go.RowKit

def rowF (f : Nat → Value) (n : Nat) : List Value := (List.range n).map f

theorem rowF_length (f : Nat → Value) (n : Nat) : (rowF f n).length = n := by simp [rowF]
theorem rowF_at {f : Nat → Value} {n i : Nat} (h : i < n) : (rowF f n)[i]? = some (f i) := by simp [rowF, h]
theorem rowF_congr {f g : Nat → Value} {n : Nat} (h : ∀ j, j < n → f j = g j) : rowF f n = rowF g n := by
  unfold rowF; apply List.map_congr_left; intro j hj; exact h j (List.mem_range.1 hj)
theorem rowF_set (f : Nat → Value) (n i : Nat) (v : Value) : (rowF f n).set i v = rowF (up1 f i v) n := by
  apply List.ext_getElem?
  intro j
  by_cases hj : j < n
  · rw [rowF_at hj, List.getElem?_set]
    by_cases e : i = j
    · subst e; simp [rowF_length, hj, up1]
    · rw [if_neg e, rowF_at hj, up1_off _ _ (fun h => e h.symm)]
  · rw [List.getElem?_eq_none (by rw [List.length_set, rowF_length]; omega), List.getElem?_eq_none (by rw [rowF_length]; omega)]
theorem rowF_snoc (f : Nat → Value) (n : Nat) (v : Value) : rowF f n ++ [v] = rowF (up1 f n v) (n + 1) := by
  unfold rowF
  rw [List.range_succ, List.map_append]
  congr 1
  · apply List.map_congr_left; intro j hj; rw [up1_off _ _ (by have := List.mem_range.1 hj; omega)]
  · simp [up1]
theorem rowF_take (f : Nat → Value) {n m : Nat} (h : m ≤ n) : (rowF f n).take m = rowF f m := by
  unfold rowF
  rw [← List.map_take, List.take_range, Nat.min_eq_left h]

def nts (T : Nat → Nat) (m : Nat) : List Value := rowF (fun i => .int .i64 (T i : Int)) m
def zts (Q : Nat → Int) (n : Nat) : List Value := rowF (fun i => .int .i64 (Q i)) n
def fls (S : Nat → Nat) (n : Nat) : List Value := rowF (fun i => .float .f64 (S i)) n

theorem nts_length (T : Nat → Nat) (m : Nat) : (nts T m).length = m := rowF_length ..
theorem zts_length (T : Nat → Int) (m : Nat) : (zts T m).length = m := rowF_length ..
theorem fls_length (T : Nat → Nat) (m : Nat) : (fls T m).length = m := rowF_length ..
theorem nts_at {T : Nat → Nat} {m i : Nat} (h : i < m) : (nts T m)[i]? = some (.int .i64 (T i : Int)) := rowF_at h
theorem zts_at {T : Nat → Int} {m i : Nat} (h : i < m) : (zts T m)[i]? = some (.int .i64 (T i)) := rowF_at h
theorem fls_at {T : Nat → Nat} {m i : Nat} (h : i < m) : (fls T m)[i]? = some (.float .f64 (T i)) := rowF_at h
theorem nts_set (T : Nat → Nat) (m i x : Nat) : (nts T m).set i (.int .i64 (x : Int)) = nts (up1 T i x) m := by
  unfold nts; rw [rowF_set]; apply rowF_congr; intro j _; unfold up1; split <;> rfl
theorem zts_set (T : Nat → Int) (m i : Nat) (x : Int) : (zts T m).set i (.int .i64 x) = zts (up1 T i x) m := by
  unfold zts; rw [rowF_set]; apply rowF_congr; intro j _; unfold up1; split <;> rfl
theorem nts_snoc (T : Nat → Nat) (m x : Nat) : nts T m ++ [.int .i64 (x : Int)] = nts (up1 T m x) (m + 1) := by
  unfold nts; rw [rowF_snoc]; apply rowF_congr; intro j _; unfold up1; split <;> rfl
theorem sw_up1 (T : Nat → Nat) (i k : Nat) : up1 (up1 T i (T k)) k (T i) = sw T i k := by
  funext j
  unfold up1 sw
  by_cases h1 : j = k
  · subst h1
    by_cases h2 : j = i
    · subst h2; simp
    · simp [h2]
  · by_cases h2 : j = i
    · subst h2; simp [h1]
    · simp [h1, h2]

/-- the heap at block h: its three lists, in blocks of their own -/
structure Hp (w : World) (base h : Nat) (vs vt va : Value) (n m : Nat) (S T : Nat → Nat) (Q : Nat → Int) : Prop where
  blk : Blk w h #[vs, vt, va] 161
  low : base ≤ h
  s : Own w base 175 vs (fls S n)
  t : Own w base 3 vt (nts T m)
  a : Own w base 3 va (zts Q n)
  hs : ∀ j, vs.ownBlock = some j → j ≠ h ∧ vt.ownBlock ≠ some j ∧ va.ownBlock ≠ some j
  ht : ∀ j, vt.ownBlock = some j → j ≠ h ∧ va.ownBlock ≠ some j
  ha : ∀ j, va.ownBlock = some j → j ≠ h

section
variable {w w' : World} {base h n m : Nat} {vs vt va : Value} {S T : Nat → Nat} {Q : Nat → Int}

theorem Hp.drewN (H : Hp w base h vs vt va n m S T Q) (k : Nat) : Hp (w.drewN k) base h vs vt va n m S T Q := ⟨H.blk, H.low, H.s, H.t, H.a, H.hs, H.ht, H.ha⟩
theorem Hp.drew (H : Hp w base h vs vt va n m S T Q) : Hp w.drew base h vs vt va n m S T Q := ⟨H.blk, H.low, H.s, H.t, H.a, H.hs, H.ht, H.ha⟩

theorem Hp.kp {X : Nat → Prop} (H : Hp w base h vs vt va n m S T Q) (k : Kp X w w') (hX : ∀ j, base ≤ j → j < w.heap.size → ¬ X j) : Hp w' base h vs vt va n m S T Q :=
  ⟨H.blk.kp k (hX h H.low H.blk.lt), H.low, H.s.kp k (fun j hj => hX j (H.s.lt j hj).1 (H.s.lt j hj).2), H.t.kp k (fun j hj => hX j (H.t.lt j hj).1 (H.t.lt j hj).2), H.a.kp k (fun j hj => hX j (H.a.lt j hj).1 (H.a.lt j hj).2), H.hs, H.ht, H.ha⟩

theorem Hp.setT {g c : Nat} (H : Hp w base h vs (.slice (some ⟨g, 0, none⟩) m c) va n m S T Q) (i x : Nat) : Hp (w.setCell ⟨g, i, none⟩ (.int .i64 (x : Int))) base h vs (.slice (some ⟨g, 0, none⟩) m c) va n m S (up1 T i x) Q := by
  refine ⟨H.blk.set_other (p := ⟨g, i, none⟩) (fun e => (H.ht g rfl).1 e.symm) _, H.low, H.s.set_other (p := ⟨g, i, none⟩) (fun j hj e => (H.hs j hj).2.1 (by rw [e]; rfl)) _, ?_, H.a.set_other (p := ⟨g, i, none⟩) (fun j hj e => (H.ht g rfl).2 (by rw [hj, e])) _, H.hs, H.ht, H.ha⟩
  rw [← nts_set]; exact H.t.set i _

theorem Hp.setA {g c k : Nat} (H : Hp w base h vs vt (.slice (some ⟨g, 0, none⟩) k c) n m S T Q) (i : Nat) (x : Int) : Hp (w.setCell ⟨g, i, none⟩ (.int .i64 x)) base h vs vt (.slice (some ⟨g, 0, none⟩) k c) n m S T (up1 Q i x) := by
  refine ⟨H.blk.set_other (p := ⟨g, i, none⟩) (fun e => H.ha g rfl e.symm) _, H.low, H.s.set_other (p := ⟨g, i, none⟩) (fun j hj e => (H.hs j hj).2.2 (by rw [e]; rfl)) _, H.t.set_other (p := ⟨g, i, none⟩) (fun j hj e => (H.ht j hj).2 (by rw [e]; rfl)) _, ?_, H.hs, H.ht, H.ha⟩
  rw [← zts_set]; exact H.a.set i _

end

set_option maxHeartbeats 400000 in
theorem score_Less (a b : Nat) (w : World) :
    Calls Tryz.prog 108 #[.float .f64 a, .float .f64 b] w fun e w' => e = .returned (.bool (lessB a b)) ∧ w = w' := by
  have ha := self_order a
  have hb := self_order b
  have fa : FloatKind.f64.format = Ieee.double := rfl
  by_cases h1 : (fk a).1 = -2
  · have HO := Lib.hid (less_odd (.inl h1 : (fk a).1 = -2 ∨ (fk b).1 = -2))
    rw [h1] at ha
    have q1 : (FloatKind.f64.format.order a a != some .eq) = true := by rw [fa]; unfold bne; rw [ha]; simp
    obtain ⟨B, hB⟩ : ∃ B, (FloatKind.f64.format.order b b == some .eq) = B := ⟨_, rfl⟩
    rw [fa] at hB
    have HB := Lib.hid (show B = decide ((fk b).1 ≠ -2) by rw [← hB]; exact hb)
    have hB' : (FloatKind.f64.format.order b b == some .eq) = B := hB
    have H1 := Lib.hid h1
    clear ha hb h1 hB fa
    go_enter Tryz.func108, Tryz.ntmps108
    go_wp2
    go_ret
    rw [← HO.out, HB.out, H1.out]
    exact ⟨by simp, rfl⟩
  · by_cases h2 : (fk b).1 = -2
    · have HO := Lib.hid (less_odd (.inr h2 : (fk a).1 = -2 ∨ (fk b).1 = -2))
      have q1 : (FloatKind.f64.format.order a a != some .eq) = false := by rw [fa]; unfold bne; rw [ha]; simp [h1]
      have q2 : (FloatKind.f64.format.order b b != some .eq) = true := by rw [fa]; unfold bne; rw [hb]; simp [h2]
      have H1 := Lib.hid h1
      clear ha hb h1 fa h2
      go_enter Tryz.func108, Tryz.ntmps108
      go_wp2
      go_ret
      rw [← HO.out]
      exact ⟨by simp [H1.out], rfl⟩
    · have HO := Lib.hid (less_lt h1 h2)
      have q1 : (FloatKind.f64.format.order a a != some .eq) = false := by rw [fa]; unfold bne; rw [ha]; simp [h1]
      have q2 : (FloatKind.f64.format.order b b != some .eq) = false := by rw [fa]; unfold bne; rw [hb]; simp [h2]
      clear ha hb h1 fa h2
      go_enter Tryz.func108, Tryz.ntmps108
      go_wp2
      go_ret
      rw [← HO.out]
      exact ⟨rfl, rfl⟩

set_option maxHeartbeats 400000 in
theorem heap_ahead {w : World} {base h n m : Nat} {vs vt va : Value} {S T : Nat → Nat} {Q : Nat → Int} (H : Hp w base h vs vt va n m S T Q) (hn : n ≤ 1048576) {a b : Nat} (ha : a < n) (hb : b < n) :
    Calls Tryz.prog 100 #[.pointer (some ⟨h, 0, none⟩), .int .i64 a, .int .i64 b] w fun e w' => e = .returned (.bool (aheadB S a b)) ∧ ∃ q, w' = w.drewN q := by
  obtain ⟨g, c, rfl, _, _⟩ := H.s.leads (by rw [fls_length]; omega)
  have hS := H.s
  rw [fls_length] at hS
  have c0 : w.cell? ⟨h, 0, none⟩ = some (.slice (some ⟨g, 0, none⟩) n c) := by have := H.blk.cell (i := 0) rfl; rw [fls_length] at this; exact this
  have ca := hS.cell (fls_at ha)
  have cb := hS.cell (fls_at hb)
  have a1 : (a : Int) < (n : Int) := by omega
  have b1 : (b : Int) < (n : Int) := by omega
  have a0 : (0 : Int) ≤ (a : Int) := by omega
  have b0 : (0 : Int) ≤ (b : Int) := by omega
  have HE := Lib.hid (show aheadB S a b = (lessB (S b) (S a) || (!lessB (S a) (S b) && decide (a < b))) from rfl)
  obtain ⟨x, hx⟩ : ∃ x, S a = x := ⟨_, rfl⟩
  obtain ⟨y, hy⟩ : ∃ y, S b = y := ⟨_, rfl⟩
  rw [hx] at ca HE
  rw [hy] at cb HE
  clear hx hy hS H
  by_cases l1 : lessB y x = true
  · rw [l1] at HE
    go_enter Tryz.func100, Tryz.ntmps100
    go_wp2
    go_quiet (fail)
    go_wp2_with fail
    refine (score_Less _ _ _).mono ?_
    rintro e w' ⟨rfl, rfl⟩
    rw [l1]
    go_wp2_with fail
    go_ret
    rw [HE.out]
    exact ⟨rfl, _, rfl⟩
  · have l1' : lessB y x = false := by simpa using l1
    rw [l1'] at HE
    by_cases l2 : lessB x y = true
    · rw [l2] at HE
      go_enter Tryz.func100, Tryz.ntmps100
      go_wp2
      go_quiet (fail)
      go_wp2_with fail
      refine (score_Less _ _ _).mono ?_
      rintro e w' ⟨rfl, rfl⟩
      rw [l1']
      go_wp2_with fail
      refine (score_Less _ _ _).mono ?_
      rintro e w' ⟨rfl, rfl⟩
      rw [l2]
      go_wp2_with fail
      go_ret
      rw [HE.out]
      exact ⟨rfl, _, rfl⟩
    · have l2' : lessB x y = false := by simpa using l2
      rw [l2'] at HE
      go_enter Tryz.func100, Tryz.ntmps100
      go_wp2
      go_quiet (fail)
      go_wp2_with fail
      refine (score_Less _ _ _).mono ?_
      rintro e w' ⟨rfl, rfl⟩
      rw [l1']
      go_wp2_with fail
      refine (score_Less _ _ _).mono ?_
      rintro e w' ⟨rfl, rfl⟩
      rw [l2']
      go_wp2_with fail
      go_ret
      rw [HE.out]
      exact ⟨by simp, _, rfl⟩

end Go.Proofs.YtckmdcmkjmpiaaaGreatDoor

/-
  heap.swap, with the heap's own blocks as the frame. (Printed by mkhf.py out of HeapSwap.)
-/
namespace Go.Proofs.YtckmdcmkjmpiaaaGreatDoor
open Go.RowKit

/-- the heap's own blocks -/
def HB (h : Nat) (vs vt va : Value) (j : Nat) : Prop := j = h ∨ vs.ownBlock = some j ∨ vt.ownBlock = some j ∨ va.ownBlock = some j
theorem HB.h {h : Nat} {vs vt va : Value} : HB h vs vt va h := .inl rfl
theorem HB.t {h g n c : Nat} {vs va : Value} : HB h vs (.slice (some ⟨g, 0, none⟩) n c) va g := .inr (.inr (.inl rfl))
theorem HB.a {h g n c : Nat} {vs vt : Value} : HB h vs vt (.slice (some ⟨g, 0, none⟩) n c) g := .inr (.inr (.inr rfl))

/-- the same things stand in both -/
def Sub2 (T' T : Nat → Nat) (m : Nat) : Prop := Sub T' m T m ∧ Sub T m T' m
theorem Sub2.refl (T : Nat → Nat) (m : Nat) : Sub2 T T m := ⟨Sub.refl _ _, Sub.refl _ _⟩
theorem Sub2.trans {T1 T2 T3 : Nat → Nat} {m : Nat} (h : Sub2 T1 T2 m) (k : Sub2 T2 T3 m) : Sub2 T1 T3 m := ⟨h.1.trans k.1, k.2.trans h.2⟩
theorem sw_sw (T : Nat → Nat) (i k : Nat) : Go.Proofs.YtckmdcmkjmpiaaaGreatDoor.sw (Go.Proofs.YtckmdcmkjmpiaaaGreatDoor.sw T i k) i k = T := by
  funext j
  by_cases h1 : j = i
  · subst h1; rw [sw_l, sw_r]
  · by_cases h2 : j = k
    · subst h2; rw [sw_r, sw_l]
    · rw [sw_o h1 h2, sw_o h1 h2]
theorem Sub2.sw {T : Nat → Nat} {m i k : Nat} (hi : i < m) (hk : k < m) : Sub2 (Go.Proofs.YtckmdcmkjmpiaaaGreatDoor.sw T i k) T m := ⟨Sub.sw hi hk, by
  have := Sub.sw (T := Go.Proofs.YtckmdcmkjmpiaaaGreatDoor.sw T i k) hi hk
  rw [sw_sw] at this
  exact this⟩
theorem Sub2.iff {T' T : Nat → Nat} {m : Nat} (h : Sub2 T' T m) (x : Nat) : (∃ j, j < m ∧ T' j = x) ↔ ∃ j, j < m ∧ T j = x := by
  constructor
  · rintro ⟨j, hj, rfl⟩
    obtain ⟨k, hk, e⟩ := h.1 j hj
    exact ⟨k, hk, e.symm⟩
  · rintro ⟨j, hj, rfl⟩
    obtain ⟨k, hk, e⟩ := h.2 j hj
    exact ⟨k, hk, e.symm⟩

set_option maxRecDepth 100000 in
set_option maxHeartbeats 2000000 in
theorem hf_swap {w : World} {base h n m : Nat} {vs vt va : Value} {S T : Nat → Nat} {Q : Nat → Int} (H : Hp w base h vs vt va n m S T Q) (hI : Inv n m T Q) (hn : n ≤ 1048576) (hm : m ≤ 1048576) {i k : Nat} (hi : i < m) (hk : k < m) :
    Calls Tryz.prog 92 #[.pointer (some ⟨h, 0, none⟩), .int .i64 i, .int .i64 k] w fun e w' =>
      e = .returned (.tuple #[]) ∧ Hp w' base h vs vt va n m S (sw T i k) (swQ T Q i k) ∧ Kp (HB h vs vt va) w w' := by
  obtain ⟨gt, ct, rfl, hgt, _⟩ := H.t.leads (by rw [nts_length]; omega)
  have hTi := (hI.here i hi).1
  have hTk := (hI.here k hk).1
  obtain ⟨ga, ca, rfl, hga, _⟩ := H.a.leads (by rw [zts_length]; omega)
  rw [nts_length, zts_length] at *
  have c1 : w.cell? ⟨h, 1, none⟩ = some (.slice (some ⟨gt, 0, none⟩) m ct) := H.blk.cell (i := 1) rfl
  have hci := H.t.cell (nts_at hi)
  have hck := H.t.cell (nts_at hk)
  have hfi := H.t.free i
  have hfk := H.t.free k
  have i1 : (i : Int) < (m : Int) := by omega
  have k1 : (k : Int) < (m : Int) := by omega
  have i0 : (0 : Int) ≤ (i : Int) := by omega
  have k0 : (0 : Int) ≤ (k : Int) := by omega
  obtain ⟨v', hv'⟩ := cell_after_set (p := ⟨gt, i, none⟩) (.int .i64 (T k : Int)) hck
  have H1 : Hp ((w.setCell ⟨gt, i, none⟩ (.int .i64 (T k : Int))).setCell ⟨gt, k, none⟩ (.int .i64 (T i : Int))).drew base h vs (.slice (some ⟨gt, 0, none⟩) m ct) (.slice (some ⟨ga, 0, none⟩) n ca) n m S (sw T i k) Q := by
    rw [← sw_up1]; exact ((H.setT i (T k)).setT k (T i)).drew
  have hK1 : Kp (HB h vs (.slice (some ⟨gt, 0, none⟩) m ct) (.slice (some ⟨ga, 0, none⟩) n ca)) w ((w.setCell ⟨gt, i, none⟩ (.int .i64 (T k : Int))).setCell ⟨gt, k, none⟩ (.int .i64 (T i : Int))).drew :=
    (((Kp.refl (HB h vs (.slice (some ⟨gt, 0, none⟩) m ct) (.slice (some ⟨ga, 0, none⟩) n ca)) w).setCell (p := ⟨gt, i, none⟩) (fun _ => HB.t) _).setCell (p := ⟨gt, k, none⟩) (fun _ => HB.t) _).drew
  clear H
  have HI := Lib.hid hI; clear hI
  go_enter Tryz.func92, Tryz.ntmps92
  go_wp2
  go_region
  all_goals generalize ((w.setCell ⟨gt, i, none⟩ (.int .i64 (T k : Int))).setCell ⟨gt, k, none⟩ (.int .i64 (T i : Int))).drew = w1 at *
  have d1 : Hp (w1.setCell ⟨ga, T k, none⟩ (.int .i64 (i : Int))) base h vs (.slice (some ⟨gt, 0, none⟩) m ct) (.slice (some ⟨ga, 0, none⟩) n ca) n m S (sw T i k) (up1 Q (sw T i k i) (i : Int)) := by
    rw [sw_l]; exact H1.setA (T k) i
  have H2 : Hp ((w1.setCell ⟨ga, T k, none⟩ (.int .i64 (i : Int))).setCell ⟨ga, T i, none⟩ (.int .i64 (k : Int))).drew base h vs (.slice (some ⟨gt, 0, none⟩) m ct) (.slice (some ⟨ga, 0, none⟩) n ca) n m S (sw T i k) (swQ T Q i k) := by
    unfold swQ
    rw [sw_r]
    exact (d1.setA (T i) k).drew
  have hK2 : Kp (HB h vs (.slice (some ⟨gt, 0, none⟩) m ct) (.slice (some ⟨ga, 0, none⟩) n ca)) w ((w1.setCell ⟨ga, T k, none⟩ (.int .i64 (i : Int))).setCell ⟨ga, T i, none⟩ (.int .i64 (k : Int))).drew :=
    ((hK1.setCell (p := ⟨ga, T k, none⟩) (fun _ => HB.a) _).setCell (p := ⟨ga, T i, none⟩) (fun _ => HB.a) _).drew
  clear hck hci hfi hfk c1 hv'
  have c1 : w1.cell? ⟨h, 1, none⟩ = some (.slice (some ⟨gt, 0, none⟩) m ct) := H1.blk.cell (i := 1) rfl
  have c2 : w1.cell? ⟨h, 2, none⟩ = some (.slice (some ⟨ga, 0, none⟩) n ca) := H1.blk.cell (i := 2) rfl
  have hci := H1.t.cell (nts_at hi)
  have hck := H1.t.cell (nts_at hk)
  have hai := H1.a.cell (zts_at hTi)
  have hak := H1.a.cell (zts_at hTk)
  have hfi := H1.a.free (T i)
  have hfk := H1.a.free (T k)
  have e1 : (w1.setCell ⟨ga, T k, none⟩ (.int .i64 (i : Int))).drew.cell? ⟨h, 1, none⟩ = some (.slice (some ⟨gt, 0, none⟩) m ct) := d1.blk.cell (i := 1) rfl
  have e2 : (w1.setCell ⟨ga, T k, none⟩ (.int .i64 (i : Int))).drew.cell? ⟨h, 2, none⟩ = some (.slice (some ⟨ga, 0, none⟩) n ca) := d1.blk.cell (i := 2) rfl
  have e3 : (w1.setCell ⟨ga, T k, none⟩ (.int .i64 (i : Int))).drew.cell? ⟨gt, k, none⟩ = some (.int .i64 (T i : Int)) := by have := d1.t.cell (nts_at hk); rw [sw_r] at this; exact this
  have e5 : (w1.setCell ⟨ga, T k, none⟩ (.int .i64 (i : Int))).drew.cell? ⟨gt, i, none⟩ = some (.int .i64 (T k : Int)) := by have := d1.t.cell (nts_at hi); rw [sw_l] at this; exact this
  have f1 : ((w1.setCell ⟨ga, T k, none⟩ (.int .i64 (i : Int))).setCell ⟨ga, T i, none⟩ (.int .i64 (k : Int))).drew.cell? ⟨h, 1, none⟩ = some (.slice (some ⟨gt, 0, none⟩) m ct) := H2.blk.cell (i := 1) rfl
  have f2 : ((w1.setCell ⟨ga, T k, none⟩ (.int .i64 (i : Int))).setCell ⟨ga, T i, none⟩ (.int .i64 (k : Int))).drew.cell? ⟨h, 2, none⟩ = some (.slice (some ⟨ga, 0, none⟩) n ca) := H2.blk.cell (i := 2) rfl
  have f3 : ((w1.setCell ⟨ga, T k, none⟩ (.int .i64 (i : Int))).setCell ⟨ga, T i, none⟩ (.int .i64 (k : Int))).drew.cell? ⟨gt, k, none⟩ = some (.int .i64 (T i : Int)) := by have := H2.t.cell (nts_at hk); rw [sw_r] at this; exact this
  have f5 : ((w1.setCell ⟨ga, T k, none⟩ (.int .i64 (i : Int))).setCell ⟨ga, T i, none⟩ (.int .i64 (k : Int))).drew.cell? ⟨gt, i, none⟩ = some (.int .i64 (T k : Int)) := by have := H2.t.cell (nts_at hi); rw [sw_l] at this; exact this
  obtain ⟨u, e4⟩ := cell_after_set (p := ⟨ga, T k, none⟩) (.int .i64 (i : Int)) hai
  rw [sw_l] at hci
  rw [sw_r] at hck
  clear H1 hK1 d1 v'
  obtain ⟨x, hx⟩ : ∃ x, T i = x := ⟨_, rfl⟩
  obtain ⟨y, hy⟩ : ∃ y, T k = y := ⟨_, rfl⟩
  rw [hx] at hTi hck e3 e4 f1 f2 f3 f5 hfi hai H2 hK2
  rw [hy] at hTk hci e1 e2 e3 e4 e5 f1 f2 f3 f5 hfk hak H2 hK2
  have x1 : (x : Int) < (n : Int) := by omega
  have y1 : (y : Int) < (n : Int) := by omega
  have x0 : (0 : Int) ≤ (x : Int) := by omega
  have y0 : (0 : Int) ≤ (y : Int) := by omega
  rw [hx, hy]
  clear hx hy
  have HE := Lib.hid (And.intro e1 (And.intro e2 (And.intro e5 e3)))
  have HF := Lib.hid (And.intro f1 (And.intro f2 (And.intro f5 f3)))
  have HC := Lib.hid (And.intro c1 (And.intro c2 (And.intro hci hck)))
  have HEnd := Lib.hid (And.intro H2 hK2)
  clear e1 e2 e3 e5 f1 f2 f3 f5 H2 hK2 HI
  go_wp2
  go_region_held3 (fun u => u.cell? ⟨h, 1, none⟩ = some (.slice (some ⟨gt, 0, none⟩) m ct) ∧ u.cell? ⟨h, 2, none⟩ = some (.slice (some ⟨ga, 0, none⟩) n ca) ∧ u.cell? ⟨gt, i, none⟩ = some (.int .i64 (y : Int)) ∧ u.cell? ⟨gt, k, none⟩ = some (.int .i64 (x : Int))) (first | exact HC.out | exact HE.out | exact HF.out) (fail)
  all_goals go_wp2
  all_goals go_end0
  all_goals exact ⟨rfl, HEnd.out⟩

end Go.Proofs.YtckmdcmkjmpiaaaGreatDoor

/-
  heap.up: a thing rises.
-/
namespace Go.Proofs.YtckmdcmkjmpiaaaGreatDoor
open Go.RowKit

theorem quo2 (i : Nat) (h : 0 < i) : ((i : Int) - 1).tdiv 2 = (((i - 1) / 2 : Nat) : Int) := by
  rw [show (i : Int) - 1 = ((i - 1 : Nat) : Int) by omega]
  rw [Int.tdiv_eq_ediv_of_nonneg (by omega)]
  omega

set_option maxRecDepth 100000 in
set_option maxHeartbeats 2000000 in
theorem hf_up {w : World} {base h n m : Nat} {vs vt va : Value} {S T : Nat → Nat} {Q : Nat → Int} (H : Hp w base h vs vt va n m S T Q) (hI : Inv n m T Q) (hn : n ≤ 1048576) (hm : m ≤ 1048576) {i : Nat} (hi : i < m) (hW : Weak (ah S) T m i) :
    Calls Tryz.prog 90 #[.pointer (some ⟨h, 0, none⟩), .int .i64 i] w fun e w' =>
      e = .returned (.tuple #[]) ∧ ∃ (T' : Nat → Nat) (Q' : Nat → Int) (j : Nat), Hp w' base h vs vt va n m S T' Q' ∧ Inv n m T' Q' ∧ Sub2 T' T m ∧ j < m ∧ T' j = T i ∧ Weak (ah S) T' m j ∧ UpOK (ah S) T' j ∧ (DownOK (ah S) T m i → DownOK (ah S) T' m j) ∧ Kp (HB h vs vt va) w w' := by
  have HI0 := Lib.hid hI; clear hI
  have HW0 := Lib.hid hW; clear hW
  go_enter Tryz.func90, Tryz.ntmps90
  go_wp2_with fail
  go_loopw [1, 4] (fun v1 v4 wr => ∃ (k : Nat) (T1 : Nat → Nat) (Q1 : Nat → Int), v1 = .int .i64 k ∧ v4 = .int .i64 (((k : Int) - 1).tdiv 2) ∧ k < m ∧ Hp wr base h vs vt va n m S T1 Q1 ∧ Inv n m T1 Q1 ∧ Sub2 T1 T m ∧ T1 k = T i ∧ Weak (ah S) T1 m k ∧ (DownOK (ah S) T m i → DownOK (ah S) T1 m k) ∧ Kp (HB h vs vt va) w wr) (fun v1 _ _ => (intOf v1).toNat)
  case atStart => exact ⟨i, T, Q, rfl, rfl, hi, H, HI0.out, Sub2.refl _ _, rfl, HW0.out, id, Kp.refl _ _⟩
  case round =>
    clear H
    obtain ⟨k, T1, Q1, rfl, rfl, hk, H, hI, hSub, hTk, hW, hD, hK⟩ := hrel
    have HI := Lib.hid hI; clear hI
    have HX := Lib.hid (And.intro hSub (And.intro hTk (And.intro hW hD))); clear hSub hTk hW hD
    by_cases hp : 0 < k
    · obtain ⟨p, hpk, hpe⟩ : ∃ p, p = (k - 1) / 2 ∧ ((k : Int) - 1).tdiv 2 = ((p : Nat) : Int) := ⟨_, rfl, quo2 k hp⟩
      have hpm : p < m := by omega
      have HPK := Lib.hid hpk; clear hpk
      rw [hpe]
      clear hpe
      have hg : decide ((0 : Int) < (k : Int)) = true := by simp; omega
      obtain ⟨gt, ct, hvt, hgt, _⟩ := H.t.leads (by rw [nts_length]; omega)
      rw [nts_length] at hvt
      have HT := H.t
      rw [hvt] at HT
      have c1 : wr.cell? ⟨h, 1, none⟩ = some (.slice (some ⟨gt, 0, none⟩) m ct) := by rw [← hvt]; exact H.blk.cell (i := 1) rfl
      have hck := HT.cell (nts_at hk)
      have hcp := HT.cell (nts_at hpm)
      have k1 : (k : Int) < (m : Int) := by omega
      have k0 : (0 : Int) ≤ (k : Int) := by omega
      have p1 : (p : Int) < (m : Int) := by omega
      have p0 : (0 : Int) ≤ (p : Int) := by omega
      have ht1 := (HI.out.here k hk).1
      have ht2 := (HI.out.here p hpm).1
      have HH := Lib.hid H; clear H
      clear HT
      by_cases ha : aheadB S (T1 k) (T1 p) = true
      · go_wp2_with fail
        go_quiet ((go_at_call 100; exact Calls.quiet_of (heap_ahead (HH.out.drewN _) hn ht1 ht2)))
        rw [ha]
        go_wp2_with fail
        refine (hf_swap (HH.out.drewN _) HI.out hn hm hk hpm).mono ?_
        rintro e w2 ⟨rfl, H2, hK2⟩
        go_wp2_with fail
        obtain ⟨hw', hd'⟩ := up_step (ah_ord S) HX.out.2.2.1 hp HPK.out hk ha
        refine ⟨⟨p, _, _, rfl, rfl, hpm, H2, HI.out.swap hk hpm, Sub2.trans (Sub2.sw hk hpm) HX.out.1, by rw [sw_r]; exact HX.out.2.1, hw', fun _ => hd', (hK.drewN _).trans hK2 (fun _ _ h => h)⟩, ?_⟩
        have := HPK.out
        simp [intOf]; omega
      · have ha' : aheadB S (T1 k) (T1 p) = false := by simpa using ha
        go_wp2_with fail
        go_quiet ((go_at_call 100; exact Calls.quiet_of (heap_ahead (HH.out.drewN _) hn ht1 ht2)))
        rw [ha']
        go_wp2_with fail
        go_end0
        exact ⟨rfl, T1, Q1, k, HH.out.drewN _, HI.out, HX.out.1, hk, HX.out.2.1, HX.out.2.2.1, fun _ => by rw [← HPK.out]; exact ha, HX.out.2.2.2, hK.drewN _⟩
    · have hg : decide ((0 : Int) < (k : Int)) = false := by simp; omega
      have HH := Lib.hid H; clear H
      go_wp2_with fail
      go_quiet (fail)
      go_wp2_with fail
      go_end0
      exact ⟨rfl, T1, Q1, k, HH.out.drewN _, HI.out, HX.out.1, hk, HX.out.2.1, HX.out.2.2.1, fun h => absurd h hp, HX.out.2.2.2, hK.drewN _⟩

end Go.Proofs.YtckmdcmkjmpiaaaGreatDoor

/-
  heap.down: a thing sinks.
-/
namespace Go.Proofs.YtckmdcmkjmpiaaaGreatDoor
open Go.RowKit

theorem Ord.trans {A : Nat → Nat → Prop} (hA : Ord A) {a b c : Nat} (h1 : A a b) (h2 : A b c) : A a c := by
  apply Classical.byContradiction
  intro h
  exact hA.neg (hA.asym h2) h h1

/-- what the inner loop knows: f is the first of place i and those below it, ahead of k -/
structure Fst (A : Nat → Nat → Prop) (T : Nat → Nat) (m i f k : Nat) : Prop where
  lt : f < m
  at_ : f = i ∨ (0 < f ∧ (f - 1) / 2 = i ∧ A (T f) (T i))
  none : ∀ j, 0 < j → j < m → (j - 1) / 2 = i → j < k → ¬ A (T j) (T f)

theorem Fst.start {A : Nat → Nat → Prop} {T : Nat → Nat} {m i : Nat} (hi : i < m) : Fst A T m i i (2 * i + 1) :=
  ⟨hi, .inl rfl, fun j h0 hj h1 h2 => by omega⟩

theorem Fst.yes {A : Nat → Nat → Prop} (hA : Ord A) {T : Nat → Nat} {m i f k : Nat} (h : Fst A T m i f k) (hk : k < m) (hk1 : 2 * i + 1 ≤ k) (hk2 : k ≤ 2 * i + 2) (ha : A (T k) (T f)) : Fst A T m i k (k + 1) := by
  refine ⟨hk, .inr ⟨by omega, by omega, ?_⟩, fun j h0 hj h1 h2 => ?_⟩
  · rcases h.at_ with rfl | ⟨_, _, h3⟩
    · exact ha
    · exact hA.trans ha h3
  · by_cases e : j = k
    · subst e; exact hA.irr
    · exact hA.neg (hA.asym ha) (h.none j h0 hj h1 (by omega))

theorem Fst.no {A : Nat → Nat → Prop} {T : Nat → Nat} {m i f k : Nat} (h : Fst A T m i f k) (ha : ¬ A (T k) (T f)) : Fst A T m i f (k + 1) := by
  refine ⟨h.lt, h.at_, fun j h0 hj h1 h2 => ?_⟩
  by_cases e : j = k
  · subst e; exact ha
  · exact h.none j h0 hj h1 (by omega)

theorem Fst.end_ {A : Nat → Nat → Prop} {T : Nat → Nat} {m i f k : Nat} (h : Fst A T m i f k) (hk : m ≤ k ∨ 2 * i + 2 < k) : ∀ j, 0 < j → j < m → (j - 1) / 2 = i → ¬ A (T j) (T f) :=
  fun j h0 hj h1 => h.none j h0 hj h1 (by omega)

set_option maxRecDepth 100000 in
set_option maxHeartbeats 2000000 in
theorem hf_down {w : World} {base h n m : Nat} {vs vt va : Value} {S T : Nat → Nat} {Q : Nat → Int} (H : Hp w base h vs vt va n m S T Q) (hI : Inv n m T Q) (hn : n ≤ 1048576) (hm : m ≤ 1048576) {i : Nat} (hi : i < m) (hW : Weak (ah S) T m i) (hU : UpOK (ah S) T i) :
    Calls Tryz.prog 93 #[.pointer (some ⟨h, 0, none⟩), .int .i64 i] w fun e w' =>
      e = .returned (.tuple #[]) ∧ ∃ (T' : Nat → Nat) (Q' : Nat → Int), Hp w' base h vs vt va n m S T' Q' ∧ Inv n m T' Q' ∧ Sub2 T' T m ∧ HeapOK (ah S) T' m ∧ Kp (HB h vs vt va) w w' := by
  have HI0 := Lib.hid hI; clear hI
  have HW0 := Lib.hid (And.intro hW hU); clear hW hU
  go_enter Tryz.func93, Tryz.ntmps93
  go_wp2_with fail
  go_loopw [1] (fun v1 wr => ∃ (i : Nat) (T1 : Nat → Nat) (Q1 : Nat → Int), v1 = .int .i64 i ∧ i < m ∧ Hp wr base h vs vt va n m S T1 Q1 ∧ Inv n m T1 Q1 ∧ Sub2 T1 T m ∧ Weak (ah S) T1 m i ∧ UpOK (ah S) T1 i ∧ Kp (HB h vs vt va) w wr) (fun v1 _ => m - (intOf v1).toNat)
  case atStart => exact ⟨i, T, Q, rfl, hi, H, HI0.out, Sub2.refl _ _, HW0.out.1, HW0.out.2, Kp.refl _ _⟩
  case round =>
    clear H HI0 HW0 hi
    obtain ⟨i, T1, Q1, rfl, hi, H, hI, hSub, hW, hU, hK⟩ := hrel
    have HX := Lib.hid (And.intro hI (And.intro hSub (And.intro hW hU))); clear hI hSub hW hU
    have HH := Lib.hid H
    have HK := Lib.hid hK; clear hK
    obtain ⟨gt, ct, hvt, hgt, _⟩ := H.t.leads (by rw [nts_length]; omega)
    rw [nts_length] at hvt
    have HT := H.t
    rw [hvt] at HT
    have c1 : wr.cell? ⟨h, 1, none⟩ = some (.slice (some ⟨gt, 0, none⟩) m ct) := by rw [← hvt]; exact H.blk.cell (i := 1) rfl
    clear H
    have HC := Lib.hid (show ∀ k, k < m → wr.cell? ⟨gt, k, none⟩ = some (.int .i64 (T1 k : Int)) from fun k hk => HT.cell (nts_at hk))
    clear HT hvt hgt
    go_wp2_with fail
    obtain ⟨wo, rfl⟩ : ∃ wo : World, wo = wr := ⟨_, rfl⟩
    go_loopw [4, 5] (fun v4 v5 wr => ∃ f k q : Nat, v4 = .int .i64 f ∧ v5 = .int .i64 k ∧ 2 * i + 1 ≤ k ∧ k ≤ 2 * i + 3 ∧ Fst (ah S) T1 m i f k ∧ wr = wo.drewN q) (fun _ v5 _ => 2 * i + 3 - (intOf v5).toNat)
    case atStart => exact ⟨i, 2 * i + 1, 0, rfl, by simp, Nat.le_refl _, by omega, Fst.start hi, rfl⟩
    case round =>
      obtain ⟨f, k, q, rfl, rfl, hk1, hk3, hF, hwr⟩ := hrel
      have HHq := Lib.hid (show Hp wr base h vs vt va n m S T1 Q1 by rw [hwr]; exact HH.out.drewN q)
      have HKq := Lib.hid (show Kp (HB h vs vt va) w wr by rw [hwr]; exact HK.out.drewN q)
      have c1 : wr.cell? ⟨h, 1, none⟩ = some (.slice (some ⟨gt, 0, none⟩) m ct) := by rw [hwr]; exact c1
      have HC := Lib.hid (show ∀ k, k < m → wr.cell? ⟨gt, k, none⟩ = some (.int .i64 (T1 k : Int)) by rw [hwr]; exact HC.out)
      have HWR := Lib.hid hwr; clear hwr
      have hfm := hF.lt
      have HF := Lib.hid hF; clear hF
      by_cases h1 : k ≤ 2 * i + 2 ∧ k < m
      · have g1 : decide ((k : Int) ≤ 2 * (i : Int) + 2) = true := by simp; omega
        have g2 : decide ((k : Int) < (m : Int)) = true := by simp; omega
        obtain ⟨h1, h2⟩ := h1
        have hck := HC.out k h2
        have hcf := HC.out f hfm
        have k1 : (k : Int) < (m : Int) := by omega
        have k0 : (0 : Int) ≤ (k : Int) := by omega
        have f1 : (f : Int) < (m : Int) := by omega
        have f0 : (0 : Int) ≤ (f : Int) := by omega
        have ht1 := (HX.out.1.here k h2).1
        have ht2 := (HX.out.1.here f hfm).1
        by_cases ha : aheadB S (T1 k) (T1 f) = true
        · go_wp2_with fail
          go_quiet ((go_at_call 100; exact Calls.quiet_of (heap_ahead (HHq.out.drewN _) hn ht1 ht2)))
          rw [ha]
          go_wp2_with fail
          refine ⟨⟨k, k + 1, _, rfl, by simp, by omega, by omega, HF.out.yes (ah_ord S) h2 hk1 h1 ha, by rw [HWR.out]; exact World.drewN_drewN ..⟩, ?_⟩
          simp [intOf]; omega
        · have ha' : aheadB S (T1 k) (T1 f) = false := by simpa using ha
          go_wp2_with fail
          go_quiet ((go_at_call 100; exact Calls.quiet_of (heap_ahead (HHq.out.drewN _) hn ht1 ht2)))
          rw [ha']
          go_wp2_with fail
          refine ⟨⟨f, k + 1, _, rfl, by simp, by omega, by omega, HF.out.no ha, by rw [HWR.out]; exact World.drewN_drewN ..⟩, ?_⟩
          simp [intOf]; omega
      · have hE := HF.out.end_ (by omega)
        have HE := Lib.hid hE; clear hE
        have hg : decide ((k : Int) ≤ 2 * (i : Int) + 2) = false ∨ decide ((k : Int) ≤ 2 * (i : Int) + 2) = true ∧ decide (k < m) = false := by
          simp; omega
        by_cases e : f = i
        · subst e
          have q1 : ((f : Int) == (f : Int)) = true := by simp
          have hend : ∃ (T' : Nat → Nat) (Q' : Nat → Int), Hp wr base h vs vt va n m S T' Q' ∧ Inv n m T' Q' ∧ Sub2 T' T m ∧ HeapOK (ah S) T' m ∧ Kp (HB h vs vt va) w wr :=
            ⟨T1, Q1, HHq.out, HX.out.1, HX.out.2.1, ok_of HX.out.2.2.1 HX.out.2.2.2 HE.out, HKq.out⟩
          have HEnd := Lib.hid hend; clear hend
          rcases hg with g1 | ⟨g1, g2⟩
          · go_wp2_with fail
            refine bodyPost_ret (results_none rfl _ _ _) rfl ?_
            exact ⟨rfl, HEnd.out⟩
          · go_wp2_with fail
            refine bodyPost_ret (results_none rfl _ _ _) rfl ?_
            exact ⟨rfl, HEnd.out⟩
        · have q1 : ((f : Int) == (i : Int)) = false := by simp; omega
          obtain ⟨hf0, hfp, hfa⟩ := HF.out.at_.resolve_left e
          have HS := Lib.hid (down_step (ah_ord S) HX.out.2.2.1 hf0 hfm hfp hfa HE.out)
          have HSI := Lib.hid (HX.out.1.swap hi hfm)
          clear hfa
          rcases hg with g1 | ⟨g1, g2⟩
          · go_wp2_with fail
            refine (hf_swap HHq.out HX.out.1 hn hm hi hfm).mono ?_
            rintro e w2 ⟨rfl, H2, hK2⟩
            go_wp2_with fail
            refine ⟨⟨f, _, _, rfl, hfm, H2, HSI.out, Sub2.trans (Sub2.sw hi hfm) HX.out.2.1, HS.out.1, HS.out.2, HKq.out.trans hK2 (fun _ _ h => h)⟩, ?_⟩
            simp [intOf]; omega
          · go_wp2_with fail
            refine (hf_swap HHq.out HX.out.1 hn hm hi hfm).mono ?_
            rintro e w2 ⟨rfl, H2, hK2⟩
            go_wp2_with fail
            refine ⟨⟨f, _, _, rfl, hfm, H2, HSI.out, Sub2.trans (Sub2.sw hi hfm) HX.out.2.1, HS.out.1, HS.out.2, HKq.out.trans hK2 (fun _ _ h => h)⟩, ?_⟩
            simp [intOf]; omega

theorem hf_down0 {w : World} {base h n : Nat} {vs vt va : Value} {S T : Nat → Nat} {Q : Nat → Int} (H : Hp w base h vs vt va n 0 S T Q) :
    Calls Tryz.prog 93 #[.pointer (some ⟨h, 0, none⟩), .int .i64 0] w fun e w' => e = .returned (.tuple #[]) ∧ w = w' := by
  obtain ⟨a, c, e, _⟩ := H.t.form
  rw [nts_length] at e
  subst e
  have c1 : w.cell? ⟨h, 1, none⟩ = some (.slice a 0 c) := H.blk.cell (i := 1) rfl
  clear H
  go_enter Tryz.func93, Tryz.ntmps93
  go_wp2_with fail
  refine wp_loop_rounds 1 ?_
  rw [rounds_succ]
  go_wp2_with fail
  refine wp_loop_rounds 1 ?_
  rw [rounds_succ]
  go_wp2_with fail
  refine bodyPost_ret (results_none rfl _ _ _) rfl ?_
  exact ⟨rfl, rfl⟩

end Go.Proofs.YtckmdcmkjmpiaaaGreatDoor

/-
  heap: what is asked of a heap without change, and of none; a score of bits.
-/
namespace Go.Proofs.YtckmdcmkjmpiaaaGreatDoor
open Go.RowKit

section
variable {w : World} {base h n m : Nat} {vs vt va : Value} {S T : Nat → Nat} {Q : Nat → Int}

theorem Hp.tform (H : Hp w base h vs vt va n m S T Q) : ∃ a c, vt = .slice a m c := by
  obtain ⟨a, c, e, _⟩ := H.t.form
  rw [nts_length] at e
  exact ⟨a, c, e⟩
theorem Hp.aform (H : Hp w base h vs vt va n m S T Q) : ∃ a c, va = .slice a n c := by
  obtain ⟨a, c, e, _⟩ := H.a.form
  rw [zts_length] at e
  exact ⟨a, c, e⟩

theorem heap_known (H : Hp w base h vs vt va n m S T Q) {id : Nat} (hi : id < n) :
    Calls Tryz.prog 89 #[.pointer (some ⟨h, 0, none⟩), .int .i64 id] w fun e w' => e = .returned (.bool true) ∧ w = w' := by
  obtain ⟨a, c, rfl⟩ := H.aform
  have c2 : w.cell? ⟨h, 2, none⟩ = some (.slice a n c) := H.blk.cell (i := 2) rfl
  have g1 : decide ((0 : Int) ≤ (id : Int)) = true := by simp
  have g2 : decide (id < n) = true := by simp [hi]
  clear H
  go_enter Tryz.func89, Tryz.ntmps89
  go_wp2
  go_ret
  exact ⟨rfl, rfl⟩

theorem heap_Len (H : Hp w base h vs vt va n m S T Q) :
    Calls Tryz.prog 91 #[.pointer (some ⟨h, 0, none⟩)] w fun e w' => e = .returned (.int .i64 m) ∧ w = w' := by
  obtain ⟨a, c, rfl⟩ := H.tform
  have c2 : w.cell? ⟨h, 1, none⟩ = some (.slice a m c) := H.blk.cell (i := 1) rfl
  clear H
  go_enter Tryz.func91, Tryz.ntmps91
  go_wp2
  go_ret
  exact ⟨rfl, rfl⟩

end

end Go.Proofs.YtckmdcmkjmpiaaaGreatDoor

/-
  A score of bits; heap.New.
-/
namespace Go.Proofs.YtckmdcmkjmpiaaaGreatDoor
open Go.RowKit

theorem own_made {w : World} {base g n : Nat} {e : TypeId} {f : Nat → Value} (hb : Blk w g (rowF f n).toArray e) (hg : base ≤ g) (hn : n ≤ maxLen) :
    Own w base e (.slice (some ⟨g, 0, none⟩) n n) (rowF f n) :=
  ⟨by simp, .inr ⟨g, n, _, by rw [rowF_length], hg, hb, by rw [rowF_length]; exact Nat.le_refl _, hn, by simp [rowF_length], by simp⟩⟩

theorem made_row (z : Value) (n : Nat) : madeCells #[z] n = (rowF (fun _ => z) n).toArray := by
  apply Array.ext
  · simp [madeCells, rowF]
  · intro i h1 h2
    simp [madeCells, rowF, Nat.mod_one]

theorem Hp.new {w : World} {base h gs ga n : Nat} (hb : Blk w h #[.slice (some ⟨gs, 0, none⟩) n n, .slice none 0 0, .slice (some ⟨ga, 0, none⟩) n n] 161)
    (hs : Blk w gs (madeCells #[.float .f64 0] n) 175) (ha : Blk w ga (madeCells #[.int .i64 0] n) 3) (h1 : base ≤ h) (h2 : base ≤ gs) (h3 : base ≤ ga) (e1 : gs ≠ h) (e2 : ga ≠ h) (e3 : gs ≠ ga) (hn : n ≤ 1048576) :
    Hp w base h (.slice (some ⟨gs, 0, none⟩) n n) (.slice none 0 0) (.slice (some ⟨ga, 0, none⟩) n n) n 0 (fun _ => 0) (fun _ => 0) (fun _ => 0) := by
  rw [made_row] at hs ha
  have hm : n ≤ maxLen := by unfold maxLen; omega
  refine ⟨hb, h1, own_made hs h2 hm, Own.nil _ _ _, own_made ha h3 hm, ?_, ?_, ?_⟩
  · intro j hj
    simp [Value.ownBlock] at hj ⊢
    subst hj
    exact ⟨e1, fun e => e3 e.symm⟩
  · intro j hj
    simp [Value.ownBlock] at hj
  · intro j hj
    simp [Value.ownBlock] at hj
    subst hj
    exact e2

theorem zts_congr {Q Q' : Nat → Int} {n : Nat} (h : ∀ j, j < n → Q j = Q' j) : zts Q n = zts Q' n := rowF_congr fun j hj => by rw [h j hj]

theorem Hp.congrQ {w : World} {base h n m : Nat} {vs vt va : Value} {S T : Nat → Nat} {Q Q' : Nat → Int} (H : Hp w base h vs vt va n m S T Q) (e : ∀ j, j < n → Q j = Q' j) : Hp w base h vs vt va n m S T Q' :=
  ⟨H.blk, H.low, H.s, H.t, by rw [← zts_congr e]; exact H.a, H.hs, H.ht, H.ha⟩

theorem new3 (w : World) (c0 c1 c2 : Array Value) (t0 t1 t2 : TypeId) :
    Blk (((w.alloc (.cells c0 t0)).alloc (.cells c1 t1)).alloc (.cells c2 t2)).drew w.heap.size c0 t0 ∧ Blk (((w.alloc (.cells c0 t0)).alloc (.cells c1 t1)).alloc (.cells c2 t2)).drew (w.heap.size + 1) c1 t1 ∧ Blk (((w.alloc (.cells c0 t0)).alloc (.cells c1 t1)).alloc (.cells c2 t2)).drew (w.heap.size + 1 + 1) c2 t2 := by
  refine ⟨(((Blk.new w c0 t0).alloc _).alloc _).drew, ?_, ?_⟩
  · have := ((Blk.new (w.alloc (.cells c0 t0)) c1 t1).alloc (.cells c2 t2)).drew
    simpa using this
  · have := (Blk.new ((w.alloc (.cells c0 t0)).alloc (.cells c1 t1)) c2 t2).drew
    simpa using this

/-- what New leaves -/
def NewPost (n : Nat) (w : World) (e : Ending) (w' : World) : Prop :=
  ∃ h vs va, e = .returned (.pointer (some ⟨h, 0, none⟩)) ∧ Hp w' w.heap.size h vs (.slice none 0 0) va n 0 (fun _ => 0) (fun _ => 0) (fun _ => -1) ∧ Kp (fun _ => False) w w'

set_option maxHeartbeats 1000000 in
theorem heap_New (n : Nat) (hn : n ≤ 1048576) (w : World) :
    Calls Tryz.prog 74 #[.int .i64 n] w (NewPost n w) := by
  obtain ⟨i0, hi, hz0, hz1, hz2⟩ := info_parts (show (Tryz.prog.info? 3).map (fun i => (i.zero, i.size, i.bytes)) = some (some (.int .i64 0), 1, 8) by kernel_rfl)
  have hmk : ∀ u : World, (Instr.makeSlice 22 (.int .i64 (n : Int)) (.int .i64 (n : Int))).run Tryz.prog u =
      .ok (.slice (some ⟨u.heap.size, 0, none⟩) n n) (u.alloc (.cells (madeCells #[.int .i64 0] n) 3)) := fun u => by
    have h := run_make (P := Tryz.prog) u 22 3 i0 (.int .i64 0) Tryz.underlying22 hi hz0 .i64 .i64 (n : Int) (n : Int) (by omega) (Int.le_refl _) (by rw [hz2]; omega) (by omega)
    simpa [hz1, Value.cells] using h
  clear hi hz0 hz1 hz2 i0
  obtain ⟨i0, hi, hz0, hz1, hz2⟩ := info_parts (show (Tryz.prog.info? 175).map (fun i => (i.zero, i.size, i.bytes)) = some (some (.float .f64 0), 1, 8) by kernel_rfl)
  have hmf : ∀ u : World, (Instr.makeSlice 159 (.int .i64 (n : Int)) (.int .i64 (n : Int))).run Tryz.prog u =
      .ok (.slice (some ⟨u.heap.size, 0, none⟩) n n) (u.alloc (.cells (madeCells #[.float .f64 0] n) 175)) := fun u => by
    have h := run_make (P := Tryz.prog) u 159 175 i0 (.float .f64 0) Tryz.underlying159 hi hz0 .i64 .i64 (n : Int) (n : Int) (by omega) (Int.le_refl _) (by rw [hz2]; omega) (by omega)
    simpa [hz1, Value.cells] using h
  clear hi hz0 hz1 hz2 i0
  have g1 : decide ((n : Int) < 0) = false := by simp
  have g2 : decide ((1048576 : Int) < (n : Int)) = false := by simp; omega
  go_enter Tryz.func74, Tryz.ntmps74
  go_wp2
  go_region
  all_goals go_wp2
  all_goals
    go_loopw [22] (fun v22 wr => ∃ (k gs ga : Nat) (Q : Nat → Int), k ≤ n ∧ v22 = .int .i64 k ∧ Hp wr w.heap.size (w.heap.size + 1 + 1) (.slice (some ⟨gs, 0, none⟩) n n) (.slice none 0 0) (.slice (some ⟨ga, 0, none⟩) n n) n 0 (fun _ => 0) (fun _ => 0) Q ∧ (∀ j, j < k → Q j = -1) ∧ Kp (fun _ => False) w wr) (fun v22 _ => n - (intOf v22).toNat)
    case atStart =>
      obtain ⟨b0, b1, b2⟩ := new3 w _ _ _ _ _ _
      first
      | exact ⟨0, w.heap.size, w.heap.size + 1, _, Nat.zero_le _, rfl, Hp.new b2 b0 b1 (by omega) (by omega) (by omega) (by omega) (by omega) (by omega) hn, (fun j hj => by omega), ((((Kp.refl _ w).alloc _).alloc _).alloc _).drew⟩
      | exact ⟨0, w.heap.size + 1, w.heap.size, _, Nat.zero_le _, rfl, Hp.new b2 b1 b0 (by omega) (by omega) (by omega) (by omega) (by omega) (by omega) hn, (fun j hj => by omega), ((((Kp.refl _ w).alloc _).alloc _).alloc _).drew⟩
    case round =>
      obtain ⟨k, gs, ga, Q, hk, rfl, H, hQ, hK⟩ := hrel
      have HQ := Lib.hid hQ; clear hQ
      have c2 : wr.cell? ⟨w.heap.size + 1 + 1, 2, none⟩ = some (.slice (some ⟨ga, 0, none⟩) n n) := H.blk.cell (i := 2) rfl
      by_cases hlt : k < n
      · have hc := H.a.cell (zts_at hlt)
        have hf := H.a.free k
        have k0 : (0 : Int) ≤ (k : Int) := by omega
        have k1 : (k : Int) < (n : Int) := by omega
        have hga := (H.a.lt ga rfl).1
        have HH := Lib.hid (H.setA k (-1)); clear H
        go_wp2
        go_roundw
        case rel =>
          refine ⟨k + 1, gs, ga, _, by omega, by go_num, HH.out, fun j hj => ?_, hK.setCell (fun h => by simp at h; omega) _⟩
          by_cases e : j = k
          · subst e; exact up1_at ..
          · rw [up1_off _ _ e]; exact HQ.out j (by omega)
        case measure => simp [intOf]; omega
      · go_wp2
        go_ret
        exact ⟨_, _, _, rfl, H.congrQ (fun j hj => HQ.out j (by omega)), hK⟩

end Go.Proofs.YtckmdcmkjmpiaaaGreatDoor

/-
  heap.Push.
-/
namespace Go.Proofs.YtckmdcmkjmpiaaaGreatDoor
open Go.RowKit

theorem Hp.pushT {w w' : World} {base h n m id : Nat} {vs vt vt' va : Value} {S T : Nat → Nat} {Q : Nat → Int} (H : Hp w base h vs vt va n m S T Q)
    (hO : Own w' base 3 vt' (nts T m ++ [.int .i64 (id : Int)])) (hg : w.grownBy w' vt.ownBlock) (hat : vt'.ownBlock = vt.ownBlock ∨ ∃ g, vt'.ownBlock = some g ∧ w.heap.size ≤ g) :
    Hp (w'.setCell ⟨h, 1, none⟩ vt') base h vs vt' va n (m + 1) S (up1 T m id) Q := by
  have hK : Kp (fun j => vt.ownBlock = some j) w w' := (Kp.refl _ w).grown hg (fun j hj _ => hj)
  have hh := H.blk.lt
  have hB := H.blk.kp hK (fun e => (H.ht h e).1 rfl)
  have hsame := hB.set_same 1 vt'
  have lift : ∀ j, vt'.ownBlock = some j → vt.ownBlock = some j ∨ w.heap.size ≤ j := by
    intro j hj
    rcases hat with e | ⟨g, e, hgl⟩
    · left; rw [← e]; exact hj
    · right; rw [e] at hj; have : g = j := by simpa using hj
      omega
  have hne : ∀ j, vt'.ownBlock = some j → j ≠ h := by
    intro j hj e
    rcases lift j hj with h1 | h1
    · exact (H.ht j h1).1 e
    · omega
  refine ⟨hsame, H.low, (H.s.kp hK (fun j hj e => (H.hs j hj).2.1 e)).set_other (p := ⟨h, 1, none⟩) (fun j hj => (H.hs j hj).1) _, ?_, (H.a.kp hK (fun j hj e => (H.ht j e).2 hj)).set_other (p := ⟨h, 1, none⟩) (fun j hj => H.ha j hj) _, ?_, ?_, H.ha⟩
  · rw [nts_snoc] at hO
    exact hO.set_other (p := ⟨h, 1, none⟩) hne _
  · intro j hj
    refine ⟨(H.hs j hj).1, fun e => ?_, (H.hs j hj).2.2⟩
    rcases lift j e with h1 | h1
    · exact (H.hs j hj).2.1 h1
    · have := (H.s.lt j hj).2; omega
  · intro j hj
    refine ⟨hne j hj, fun e => ?_⟩
    rcases lift j hj with h1 | h1
    · exact (H.ht j h1).2 e
    · have := (H.a.lt j e).2; omega

theorem Hp.alloc {w : World} {base h n m : Nat} {vs vt va : Value} {S T : Nat → Nat} {Q : Nat → Int} (H : Hp w base h vs vt va n m S T Q) (o : Obj) : Hp (w.alloc o) base h vs vt va n m S T Q :=
  H.kp ((Kp.refl (fun _ => False) w).alloc o) (fun _ _ _ h => h)

theorem int_info : (Tryz.prog.info? 3).map (fun i => (i.zero, i.size, i.bytes)) = some (some (.int .i64 0), 1, 8) := by kernel_rfl

/-- what Push leaves -/
def PushF (base h n m id : Nat) (vs vt va : Value) (S T : Nat → Nat) (w : World) (e : Ending) (w' : World) : Prop :=
  e = .returned (.int .i64 0) ∧ ∃ (vt' : Value) (T' : Nat → Nat) (Q' : Nat → Int), Hp w' base h vs vt' va n (m + 1) S T' Q' ∧ Inv n (m + 1) T' Q' ∧ HeapOK (ah S) T' (m + 1) ∧
    (vt'.ownBlock = vt.ownBlock ∨ ∃ g, vt'.ownBlock = some g ∧ w.heap.size ≤ g) ∧ Sub2 T' (up1 T m id) (m + 1) ∧ Kp (HB h vs vt va) w w'

set_option maxRecDepth 100000 in
set_option maxHeartbeats 2000000 in
theorem hf_Push {w : World} {base h n m : Nat} {vs vt va : Value} {S T : Nat → Nat} {Q : Nat → Int} (H : Hp w base h vs vt va n m S T Q) (hI : Inv n m T Q) (hok : HeapOK (ah S) T m) (hn : n ≤ 1048576) (hm : m < 1048576) {id : Nat} (hid : id < n) (hq : Q id < 0) :
    Calls Tryz.prog 75 #[.pointer (some ⟨h, 0, none⟩), .int .i64 id] w (PushF base h n m id vs vt va S T w) := by
  have HI := Lib.hid (hI.push hid hq)
  have HW := Lib.hid (push_weak (x := id) hok)
  clear hI hok
  obtain ⟨ga, ca, hva, hga, _⟩ := H.a.leads (by rw [zts_length]; omega)
  rw [zts_length] at hva
  subst hva
  obtain ⟨at_, ct, hvt⟩ := H.tform
  have hbl := H.blk.lt
  have hlow := H.low
  have c1 : w.cell? ⟨h, 1, none⟩ = some (.slice at_ m ct) := by rw [← hvt]; exact H.blk.cell (i := 1) rfl
  have c2 : w.cell? ⟨h, 2, none⟩ = some (.slice (some ⟨ga, 0, none⟩) n ca) := H.blk.cell (i := 2) rfl
  have ci := H.a.cell (zts_at hid)
  have fi := H.a.free id
  have i0 : (0 : Int) ≤ (id : Int) := by omega
  have i1 : (id : Int) < (n : Int) := by omega
  have g1 : decide ((0 : Int) ≤ Q id) = false := by simp; omega
  obtain ⟨qi, hqi⟩ : ∃ qi, Q id = qi := ⟨_, rfl⟩
  have H1 := Lib.hid (H.setA id (m : Int)).drew
  have HH := Lib.hid H
  have HVT := Lib.hid hvt
  have hK1 : Kp (HB h vs vt (.slice (some ⟨ga, 0, none⟩) n ca)) w (w.setCell ⟨ga, id, none⟩ (.int .i64 (m : Int))).drew := ((Kp.refl (HB h vs vt (.slice (some ⟨ga, 0, none⟩) n ca)) w).setCell (p := ⟨ga, id, none⟩) (fun _ => HB.a) _).drew
  have HK1 := Lib.hid hK1
  rw [hqi] at ci g1
  clear H hvt hK1 hqi hq
  go_enter Tryz.func75, Tryz.ntmps75
  go_wp2_with fail
  refine (heap_known HH.out hid).mono ?_
  rintro e w' ⟨rfl, rfl⟩
  go_wp2_with fail
  go_region
  clear c1 c2 ci fi
  all_goals generalize (w.setCell ⟨ga, id, none⟩ (.int .i64 (m : Int))).drew = w1 at *
  have c1 : w1.cell? ⟨h, 1, none⟩ = some (.slice at_ m ct) := by rw [← HVT.out]; exact H1.out.blk.cell (i := 1) rfl
  have hb1 := H1.out.blk.lt
  have hO := H1.out.t
  rw [HVT.out] at hO
  have HOw := Lib.hid hO; clear hO
  go_wp2_with (at_builtin; refine wpList_append1_at rfl _ _ 22 3 rfl Tryz.underlying22 int_info rfl (HOw.out.alloc _) rfl ⟨w1.heap.size, 0, none⟩ (.int .i64 id) rfl ?c1 rfl ?c2 ?c3 ?c4 ?_)
  case c1 => exact World.cell?_alloc_at _ _ _ _ rfl
  case c2 => rw [nts_length]; omega
  case c3 => rw [nts_length]; unfold maxLen; omega
  case c4 => simp; omega
  intro v' w2 hO2 hg2 hat2
  obtain ⟨av, cv, hav, _⟩ := hO2.form
  subst hav
  obtain ⟨lv, hlv⟩ : ∃ lv, lv = (nts T m ++ [Value.int .i64 (id : Int)]).length := ⟨_, rfl⟩
  rw [← hlv] at hO2 hat2 ⊢
  clear hlv
  obtain ⟨v', hv'⟩ : ∃ v', v' = Value.slice av lv cv := ⟨_, rfl⟩
  have HV := Lib.hid hv'
  rw [← hv'] at hO2 hat2
  clear hv'
  have HA := Lib.hid (H1.out.alloc (.cells #[.int .i64 (id : Int)] 3))
  have hP := Hp.pushT HA.out hO2 (by rw [HVT.out]; exact hg2) (by rw [HVT.out]; rcases hat2 with e | e; exact .inl e; exact .inr ⟨_, e, by simp⟩)
  have hK2 : Kp (HB h vs vt (.slice (some ⟨ga, 0, none⟩) n ca)) w w2 := (HK1.out.alloc _).grown hg2 (fun j hj _ => by rw [HVT.out]; exact .inr (.inr (.inl hj)))
  have hK3 : Kp (HB h vs vt (.slice (some ⟨ga, 0, none⟩) n ca)) w (w2.setCell ⟨h, 1, none⟩ v') := hK2.setCell (p := ⟨h, 1, none⟩) (fun _ => HB.h) _
  have hsz : w.heap.size ≤ w1.heap.size := HK1.out.size
  have hlift : v'.ownBlock = vt.ownBlock ∨ ∃ g, v'.ownBlock = some g ∧ w.heap.size ≤ g := by
    rcases hat2 with e | e
    · left; rw [HVT.out]; exact e
    · right; exact ⟨_, e, by (try simp); omega⟩
  have HLift := Lib.hid hlift
  clear hlift hsz
  have hKg : Kp (fun j => (Value.slice at_ m ct).ownBlock = some j) (w1.alloc (.cells #[.int .i64 (id : Int)] 3)) w2 := (Kp.refl _ _).grown hg2 (fun j hj _ => hj)
  have hb2 := HA.out.blk.kp hKg (fun e => (HA.out.ht h (by rw [HVT.out]; exact e)).1 rfl)
  have c1 : w2.cell? ⟨h, 1, none⟩ = some vt := hb2.cell (i := 1) rfl
  have f1 : w2.frozen? ⟨h, 1, none⟩ = false := hb2.free 1
  rw [HVT.out] at c1
  have HP := Lib.hid hP
  have HK3 := Lib.hid hK3
  rw [HV.out] at HP HK3 hP
  have c2 : (w2.setCell ⟨h, 1, none⟩ (.slice av lv cv)).cell? ⟨h, 2, none⟩ = some (.slice (some ⟨ga, 0, none⟩) n ca) := hP.blk.cell (i := 2) rfl
  have ci : (w2.setCell ⟨h, 1, none⟩ (.slice av lv cv)).cell? ⟨ga, id, none⟩ = some (.int .i64 (m : Int)) := by have := hP.a.cell (zts_at hid); rw [up1_at] at this; exact this
  clear hP hK2 hK3 hKg hb2 hO2 hg2 hat2
  go_wp2_with fail
  refine (hf_up HP.out HI.out hn (by omega) (i := m) (by omega) HW.out.1).mono ?_
  rintro e w3 ⟨rfl, T', Q', j, H4, hI4, hSub, hj, hTj, hW4, hU4, hD4, hK4⟩
  have hok4 := ok_of hW4 hU4 (hD4 HW.out.2)
  have hKe : Kp (HB h vs vt (.slice (some ⟨ga, 0, none⟩) n ca)) w w3 := HK3.out.trans hK4 (fun j hj hb => by
    rcases hb with e | e | e | e
    · exact .inl e
    · exact .inr (.inl e)
    · rw [← HV.out] at e
      rcases HLift.out with e2 | ⟨g, e2, hg⟩
      · exact .inr (.inr (.inl (e2 ▸ e)))
      · rw [e2] at e
        have : g = j := by simpa using e
        omega
    · exact .inr (.inr (.inr e)))
  have hL := HLift.out
  rw [HV.out] at hL
  have HEnd := Lib.hid (show ∃ (vt' : Value) (T' : Nat → Nat) (Q' : Nat → Int), Hp w3 base h vs vt' (.slice (some ⟨ga, 0, none⟩) n ca) n (m + 1) S T' Q' ∧ Inv n (m + 1) T' Q' ∧ HeapOK (ah S) T' (m + 1) ∧
      (vt'.ownBlock = vt.ownBlock ∨ ∃ g, vt'.ownBlock = some g ∧ w.heap.size ≤ g) ∧ Sub2 T' (up1 T m id) (m + 1) ∧ Kp (HB h vs vt (.slice (some ⟨ga, 0, none⟩) n ca)) w w3 from
    ⟨_, T', Q', H4, hI4, hok4, hL, hSub, hKe⟩)
  clear hok4 hKe hL
  clear H4 hI4 hSub hTj hW4 hU4 hD4 hK4
  go_wp2_with fail
  go_ret
  exact ⟨rfl, HEnd.out⟩

end Go.Proofs.YtckmdcmkjmpiaaaGreatDoor

/-
  heap.Pop.
-/
namespace Go.Proofs.YtckmdcmkjmpiaaaGreatDoor
open Go.RowKit

theorem Own.cut' {w : World} {base : Nat} {e : TypeId} {g n cap m : Nat} {cs : List Value} (h : Own w base e (.slice (some ⟨g, 0, none⟩) n cap) cs) (hm : m ≤ cs.length) :
    Own w base e (.slice (some ⟨g, 0, none⟩) m cap) (cs.take m) := by
  rcases h.2 with ⟨h3, _⟩ | ⟨g', cap', cur, hv, hb, hg, hnc, hcm, hcs, htake⟩
  · cases h3
  · simp only [Value.slice.injEq, Option.some.injEq, Addr.mk.injEq, and_true] at hv
    obtain ⟨rfl, rfl, rfl⟩ := hv
    have hl : (cs.take m).length = m := by simp; omega
    refine ⟨by simp, .inr ⟨g, cap, cur, by rw [hl], hb, hg, by rw [hl]; omega, hcm, hcs, ?_⟩⟩
    rw [hl, Nat.mul_one]
    rw [Nat.mul_one] at htake
    rw [← htake, List.take_take]
    congr 1
    omega

theorem Hp.cutT {w : World} {base h n m gt ct : Nat} {vs va : Value} {S T : Nat → Nat} {Q : Nat → Int} (H : Hp w base h vs (.slice (some ⟨gt, 0, none⟩) (m + 1) ct) va n (m + 1) S T Q) :
    Hp (w.setCell ⟨h, 1, none⟩ (.slice (some ⟨gt, 0, none⟩) m ct)) base h vs (.slice (some ⟨gt, 0, none⟩) m ct) va n m S T Q := by
  refine ⟨H.blk.set_same 1 _, H.low, H.s.set_other (p := ⟨h, 1, none⟩) (fun j hj => (H.hs j hj).1) _, ?_, H.a.set_other (p := ⟨h, 1, none⟩) (fun j hj => H.ha j hj) _, H.hs, H.ht, H.ha⟩
  have := H.t.cut' (m := m) (by rw [nts_length]; omega)
  unfold nts at this ⊢
  rw [rowF_take _ (by omega)] at this
  exact this.set_other (p := ⟨h, 1, none⟩) (fun j hj => (H.ht j hj).1) _

theorem pop_set {n m : Nat} {T : Nat → Nat} {Q : Nat → Int} (hI : Inv n (m + 1) T Q) (x : Nat) : (∃ j, j < m ∧ sw T 0 m j = x) ↔ x ≠ T 0 ∧ ∃ j, j < m + 1 ∧ T j = x := by
  constructor
  · rintro ⟨j, hj, rfl⟩
    by_cases e : j = 0
    · subst e
      rw [sw_l]
      exact ⟨fun e => by have := hI.inj (show m < m + 1 by omega) (show 0 < m + 1 by omega) e; omega, m, by omega, rfl⟩
    · rw [sw_o e (by omega)]
      exact ⟨fun e2 => e (hI.inj (show j < m + 1 by omega) (show 0 < m + 1 by omega) e2), j, by omega, rfl⟩
  · rintro ⟨hne, j, hj, rfl⟩
    have hj0 : j ≠ 0 := fun e => hne (by rw [e])
    by_cases e : j = m
    · subst e
      exact ⟨0, by omega, sw_l ..⟩
    · exact ⟨j, by omega, sw_o hj0 e⟩

/-- what Pop leaves -/
def PopF (base h n m : Nat) (vs vt va : Value) (S T : Nat → Nat) (w : World) (e : Ending) (w' : World) : Prop :=
  ∃ id : Nat, id < n ∧ e = .returned (.tuple #[.int .i64 id, .bool true]) ∧ (∃ j, j < m + 1 ∧ T j = id) ∧ (∀ j, j < m + 1 → ¬ ah S (T j) id) ∧ ∃ (vt' : Value) (T' : Nat → Nat) (Q' : Nat → Int), Hp w' base h vs vt' va n m S T' Q' ∧ Inv n m T' Q' ∧ HeapOK (ah S) T' m ∧
    vt'.ownBlock = vt.ownBlock ∧ (∀ x, (∃ j, j < m ∧ T' j = x) ↔ x ≠ id ∧ ∃ j, j < m + 1 ∧ T j = x) ∧ Kp (HB h vs vt va) w w'

theorem hf_Pop0 {w : World} {base h n : Nat} {vs vt va : Value} {S T : Nat → Nat} {Q : Nat → Int} (H : Hp w base h vs vt va n 0 S T Q) :
    Calls Tryz.prog 76 #[.pointer (some ⟨h, 0, none⟩)] w fun e w' => e = .returned (.tuple #[.int .i64 0, .bool false]) ∧ w = w' := by
  have HH := Lib.hid H; clear H
  go_enter Tryz.func76, Tryz.ntmps76
  go_wp2_with fail
  refine (heap_Len HH.out).mono ?_
  rintro e w' ⟨rfl, rfl⟩
  go_wp2_with fail
  go_ret2
  exact ⟨rfl, rfl⟩

set_option maxRecDepth 100000 in
set_option maxHeartbeats 2000000 in
theorem hf_Pop {w : World} {base h n m : Nat} {vs vt va : Value} {S T : Nat → Nat} {Q : Nat → Int} (H : Hp w base h vs vt va n (m + 1) S T Q) (hI : Inv n (m + 1) T Q) (hok : HeapOK (ah S) T (m + 1)) (hn : n ≤ 1048576) (hm : m < 1048576) :
    Calls Tryz.prog 76 #[.pointer (some ⟨h, 0, none⟩)] w (PopF base h n m vs vt va S T w) := by
  obtain ⟨gt, ct, hvt, hgt, _⟩ := H.t.leads (by rw [nts_length]; omega)
  rw [nts_length] at hvt
  subst hvt
  have hT0 := (hI.here 0 (by omega)).1
  obtain ⟨ga, ca, hva, hga, _⟩ := H.a.leads (by rw [zts_length]; omega)
  rw [zts_length] at hva
  subst hva
  have hct : m + 1 ≤ ct ∧ ct ≤ maxLen := by
    obtain ⟨a, c, e, h1, h2, _⟩ := H.t.form
    rw [nts_length] at e h1
    simp only [Value.slice.injEq] at e
    obtain ⟨_, _, rfl⟩ := e
    exact ⟨h1, h2⟩
  have hct2 : ct ≤ 9223372036854775807 := by have := hct.2; unfold maxLen at this; omega
  have hct1 : m + 1 ≤ ct := hct.1
  clear hct
  have hlow := H.low
  have c1 : w.cell? ⟨h, 1, none⟩ = some (.slice (some ⟨gt, 0, none⟩) (m + 1) ct) := H.blk.cell (i := 1) rfl
  have t0 := H.t.cell (nts_at (i := 0) (by omega))
  have z0 : (0 : Int) < ((m + 1 : Nat) : Int) := by omega
  have e0 : (((m + 1 : Nat) : Int) == 0) = false := by simp; omega
  have HH := Lib.hid H; clear H
  have HI := Lib.hid hI; clear hI
  have HOK := Lib.hid hok; clear hok
  obtain ⟨id, hid⟩ : ∃ id, T 0 = id := ⟨_, rfl⟩
  rw [hid] at t0 hT0
  have HID := Lib.hid hid; clear hid
  go_enter Tryz.func76, Tryz.ntmps76
  go_wp2_with fail
  refine (heap_Len HH.out).mono ?_
  rintro e w' ⟨rfl, rfl⟩
  go_wp2_with fail
  go_quiet (fail)
  have HK0 := (Kp.refl (HB h vs (.slice (some ⟨gt, 0, none⟩) (m + 1) ct) (.slice (some ⟨ga, 0, none⟩) n ca)) w).drewN nq
  go_wp2_with fail
  refine (hf_swap (i := 0) (k := m) (HH.out.drewN _) HI.out hn (by omega) (by omega) (by omega)).mono ?_
  rintro e w2 ⟨rfl, H2, hK2⟩
  have hI2 := HI.out.swap (i := 0) (k := m) (by omega) (by omega)
  have hsm : sw T 0 m m = id := by rw [sw_r]; exact HID.out
  have c1 : w2.cell? ⟨h, 1, none⟩ = some (.slice (some ⟨gt, 0, none⟩) (m + 1) ct) := H2.blk.cell (i := 1) rfl
  have f1 : w2.frozen? ⟨h, 1, none⟩ = false := H2.blk.free 1
  have c2 : w2.cell? ⟨h, 2, none⟩ = some (.slice (some ⟨ga, 0, none⟩) n ca) := H2.blk.cell (i := 2) rfl
  have ci := H2.a.cell (zts_at hT0)
  have fi := H2.a.free id
  have H3 := H2.cutT
  have ci3 := H3.a.cell (zts_at hT0)
  have fi3 := H3.a.free id
  have i0 : (0 : Int) ≤ (id : Int) := by omega
  have i1 : (id : Int) < (n : Int) := by omega
  have m0 : (0 : Int) ≤ (m : Int) := by omega
  have m1 : (m : Int) ≤ (ct : Int) := by omega
  obtain ⟨qv, hqv⟩ : ∃ qv, swQ T Q 0 m id = qv := ⟨_, rfl⟩
  rw [hqv] at ci ci3
  have H4 := Lib.hid (H3.setA id (-1)).drew
  have hID := hI2.drop
  rw [hsm] at hID
  have HI4 := Lib.hid hID
  have HK4 := Lib.hid ((((HK0 : Kp (HB h vs (.slice (some ⟨gt, 0, none⟩) (m + 1) ct) (.slice (some ⟨ga, 0, none⟩) n ca)) w (w.drewN nq)).trans hK2 (fun _ _ h => h)).setCell (p := ⟨h, 1, none⟩) (fun _ => HB.h) (.slice (some ⟨gt, 0, none⟩) m ct)).setCell (p := ⟨ga, id, none⟩) (fun _ => HB.a) (.int .i64 (-1))).drew
  clear hqv H2 H3 hI2 hID hK2 hsm t0
  go_wp2_with fail
  go_region
  clear c1 f1 c2 ci fi ci3 fi3
  have HPW := Lib.hid (pop_weak HOK.out)
  have HRF := Lib.hid (root_first (ah_ord S) HOK.out)
  by_cases hm0 : m = 0
  · subst hm0
    go_wp2_with fail
    refine (hf_down0 H4.out).mono ?_
    rintro e w4 ⟨rfl, rfl⟩
    go_wp2_with fail
    go_ret2
    exact ⟨id, hT0, rfl, ⟨0, by omega, HID.out⟩, fun j hj => by rw [← HID.out]; exact HRF.out j hj, _, _, _, H4.out, HI4.out, fun j _ hj => by omega, rfl, fun x => by rw [← HID.out]; exact pop_set HI.out x, HK4.out⟩
  · go_wp2_with fail
    refine (hf_down (i := 0) H4.out HI4.out hn (by omega) (by omega) HPW.out.1 HPW.out.2).mono ?_
    rintro e w4 ⟨rfl, T5, Q5, H5, hI5, hSub5, hok5, hK5⟩
    have hset : ∀ x, (∃ j, j < m ∧ T5 j = x) ↔ x ≠ id ∧ ∃ j, j < m + 1 ∧ T j = x := fun x => by
      rw [hSub5.iff x, ← HID.out]
      exact pop_set HI.out x
    have HSet := Lib.hid hset
    have HKz := Lib.hid (HK4.out.trans hK5 (fun _ _ h => h))
    have H5h := Lib.hid H5
    have HI5 := Lib.hid (And.intro hI5 hok5)
    clear H5 hI5 hSub5 hok5 hK5 hset
    go_wp2_with fail
    go_ret2
    exact ⟨id, hT0, rfl, ⟨0, by omega, HID.out⟩, fun j hj => by rw [← HID.out]; exact HRF.out j hj, _, T5, Q5, H5h.out, HI5.out.1, HI5.out.2, rfl, HSet.out, HKz.out⟩

end Go.Proofs.YtckmdcmkjmpiaaaGreatDoor

/-
  A heap whose scores are all 0, as a set: what is popped is the least.
-/
namespace Go.Proofs.YtckmdcmkjmpiaaaGreatDoor
open Go.RowKit

theorem ah_zero (a b : Nat) : ah (fun _ => 0) a b ↔ a < b := by
  rw [ah_iff]
  unfold klt
  omega

theorem Inv.room {n m : Nat} {T : Nat → Nat} {Q : Nat → Int} (h : Inv n m T Q) {id : Nat} (hid : id < n) (hq : Q id < 0) : m < n := by
  have hnd : ((List.range m).map T).Nodup := by
    rw [List.nodup_iff_pairwise_ne, List.pairwise_map]
    refine List.Pairwise.imp_of_mem ?_ (List.nodup_range (n := m))
    intro a b ha hb hne e
    exact hne (h.inj (List.mem_range.1 ha) (List.mem_range.1 hb) e)
  have := nodup_lt hnd (n := n) (i := id) (fun j hj => by
    obtain ⟨k, hk, rfl⟩ := List.mem_map.1 hj
    exact (h.here k (List.mem_range.1 hk)).1) hid (fun hm => by
    obtain ⟨k, hk, e⟩ := List.mem_map.1 hm
    have := (h.here k (List.mem_range.1 hk)).2
    rw [e] at this
    omega)
  simpa using this

theorem Inv.most {n m : Nat} {T : Nat → Nat} {Q : Nat → Int} (h : Inv n m T Q) : m ≤ n := by
  have hnd : ((List.range m).map T).Nodup := by
    rw [List.nodup_iff_pairwise_ne, List.pairwise_map]
    refine List.Pairwise.imp_of_mem ?_ (List.nodup_range (n := m))
    intro a b ha hb hne e
    exact hne (h.inj (List.mem_range.1 ha) (List.mem_range.1 hb) e)
  have := nodup_le n hnd (fun j hj => by
    obtain ⟨k, hk, rfl⟩ := List.mem_map.1 hj
    exact (h.here k (List.mem_range.1 hk)).1)
  simpa using this

/-- the heap at h holds just the things of M; its memory is the blocks of X, from base on -/
def HSet (w : World) (base h n : Nat) (X : Nat → Prop) (M : Nat → Prop) : Prop :=
  ∃ (vs vt va : Value) (m : Nat) (T : Nat → Nat) (Q : Nat → Int), Hp w base h vs vt va n m (fun _ => 0) T Q ∧ Inv n m T Q ∧ HeapOK (ah (fun _ => 0)) T m ∧ (∀ j, HB h vs vt va j ↔ X j) ∧ ∀ x, (∃ j, j < m ∧ T j = x) ↔ M x

section
variable {w w' : World} {base h n : Nat} {X M : Nat → Prop}

theorem Hp.own_lt {m : Nat} {vs vt va : Value} {S T : Nat → Nat} {Q : Nat → Int} (H : Hp w base h vs vt va n m S T Q) {j : Nat} (hj : HB h vs vt va j) : base ≤ j ∧ j < w.heap.size := by
  rcases hj with e | e | e | e
  · subst e; exact ⟨H.low, H.blk.lt⟩
  · exact H.s.lt j e
  · exact H.t.lt j e
  · exact H.a.lt j e

theorem HSet.lt (H : HSet w base h n X M) {j : Nat} (hj : X j) : base ≤ j ∧ j < w.heap.size := by
  obtain ⟨vs, vt, va, m, T, Q, H, _, _, hX, _⟩ := H
  exact H.own_lt ((hX j).2 hj)

theorem HSet.low (H : HSet w base h n X M) {b : Nat} (hb : b ≤ base) : HSet w b h n X M := by
  obtain ⟨vs, vt, va, m, T, Q, H, r⟩ := H
  exact ⟨vs, vt, va, m, T, Q, ⟨H.blk, Nat.le_trans hb H.low, H.s.mono hb, H.t.mono hb, H.a.mono hb, H.hs, H.ht, H.ha⟩, r⟩

theorem HSet.kp {S : Nat → Prop} (H : HSet w base h n X M) (k : Kp S w w') (hS : ∀ j, X j → ¬ S j) : HSet w' base h n X M := by
  obtain ⟨vs, vt, va, m, T, Q, H, hI, hok, hX, hM⟩ := H
  refine ⟨vs, vt, va, m, T, Q, ⟨H.blk.kp k (hS h ((hX h).1 HB.h)), H.low, H.s.kp k (fun j hj => hS j ((hX j).1 (.inr (.inl hj)))), H.t.kp k (fun j hj => hS j ((hX j).1 (.inr (.inr (.inl hj))))), H.a.kp k (fun j hj => hS j ((hX j).1 (.inr (.inr (.inr hj))))), H.hs, H.ht, H.ha⟩, hI, hok, hX, hM⟩

theorem HSet.same {M' : Nat → Prop} (H : HSet w base h n X M) (e : ∀ x, M x ↔ M' x) : HSet w base h n X M' := by
  obtain ⟨vs, vt, va, m, T, Q, H, hI, hok, hX, hM⟩ := H
  exact ⟨vs, vt, va, m, T, Q, H, hI, hok, hX, fun x => (hM x).trans (e x)⟩

theorem HSet.new (hn : n ≤ 1048576) (w : World) : Calls Tryz.prog 74 #[.int .i64 n] w fun e w' => ∃ h X, e = .returned (.pointer (some ⟨h, 0, none⟩)) ∧ HSet w' w.heap.size h n X (fun _ => False) ∧ Kp (fun _ => False) w w' :=
  (heap_New n hn w).mono (by
    rintro e w' ⟨h, vs, va, he, H, hK⟩
    refine ⟨h, _, he, ⟨vs, _, va, 0, _, _, H, ⟨fun i hi => by omega, fun x _ => .inl rfl⟩, fun j _ hj => by omega, fun _ => Iff.rfl, fun x => ?_⟩, hK⟩
    constructor
    · rintro ⟨j, hj, _⟩; omega
    · exact fun h => h.elim)

theorem HSet.push (H : HSet w base h n X M) (hn : n ≤ 1048576) {id : Nat} (hid : id < n) (hm : ¬ M id) :
    Calls Tryz.prog 75 #[.pointer (some ⟨h, 0, none⟩), .int .i64 id] w fun e w' => e = .returned (.int .i64 0) ∧ ∃ X', HSet w' base h n X' (fun x => M x ∨ x = id) ∧ (∀ j, X' j → X j ∨ w.heap.size ≤ j) ∧ Kp X w w' := by
  obtain ⟨vs, vt, va, m, T, Q, H, hI, hok, hX, hM⟩ := H
  have hq : Q id < 0 := by
    rcases hI.there id hid with e | ⟨i, hi, _, e⟩
    · omega
    · exact absurd ((hM id).1 ⟨i, hi, e⟩) hm
  have hroom := hI.room hid hq
  refine (hf_Push H hI hok hn (by omega) hid hq).mono ?_
  rintro e w' ⟨he, vt', T', Q', H', hI', hok', hat, hsub, hK⟩
  refine ⟨he, HB h vs vt' va, ⟨vs, vt', va, m + 1, T', Q', H', hI', hok', fun _ => Iff.rfl, fun x => ?_⟩, ?_, hK.mono (fun j _ hj => (hX j).1 hj)⟩
  · rw [hsub.iff x]
    constructor
    · rintro ⟨j, hj, e⟩
      by_cases ej : j = m
      · subst ej; rw [up1_at] at e; exact .inr e.symm
      · rw [up1_off _ _ ej] at e; exact .inl ((hM x).1 ⟨j, by omega, e⟩)
    · rintro (h | h)
      · obtain ⟨j, hj, e⟩ := (hM x).2 h
        exact ⟨j, by omega, by rw [up1_off _ _ (by omega)]; exact e⟩
      · exact ⟨m, by omega, by rw [up1_at]; exact h.symm⟩
  · intro j hj
    rcases hj with e | e | e | e
    · exact .inl ((hX j).1 (.inl e))
    · exact .inl ((hX j).1 (.inr (.inl e)))
    · rcases hat with e2 | ⟨g, e2, hg⟩
      · exact .inl ((hX j).1 (.inr (.inr (.inl (e2 ▸ e)))))
      · rw [e2] at e
        have : g = j := by simpa using e
        exact .inr (by omega)
    · exact .inl ((hX j).1 (.inr (.inr (.inr e))))

theorem HSet.pop (H : HSet w base h n X M) (hn : n ≤ 1048576) (hm : ∃ x, M x) :
    Calls Tryz.prog 76 #[.pointer (some ⟨h, 0, none⟩)] w fun e w' => ∃ id : Nat, id < n ∧ e = .returned (.tuple #[.int .i64 id, .bool true]) ∧ M id ∧ (∀ x, M x → id ≤ x) ∧ HSet w' base h n X (fun x => M x ∧ x ≠ id) ∧ Kp X w w' := by
  obtain ⟨vs, vt, va, m, T, Q, H, hI, hok, hX, hM⟩ := H
  obtain ⟨x, hx⟩ := hm
  obtain ⟨j0, hj0, _⟩ := (hM x).2 hx
  obtain ⟨m', rfl⟩ : ∃ m', m = m' + 1 := ⟨m - 1, by omega⟩
  have hmost := hI.most
  refine (hf_Pop H hI hok hn (by omega)).mono ?_
  rintro e w' ⟨id, hid, he, hmem, hleast, vt', T', Q', H', hI', hok', hat, hset, hK⟩
  refine ⟨id, hid, he, (hM id).1 hmem, fun x hx => ?_, ⟨vs, vt', va, m', T', Q', H', hI', hok', fun j => ?_, fun x => ?_⟩, hK.mono (fun j _ hj => (hX j).1 hj)⟩
  · obtain ⟨j, hj, rfl⟩ := (hM x).2 hx
    have := hleast j hj
    rw [ah_zero] at this
    omega
  · rw [← hX j]
    unfold HB
    rw [hat]
  · rw [hset x, hM x]
    exact And.comm

theorem HSet.pop0 (H : HSet w base h n X M) (hm : ∀ x, ¬ M x) :
    Calls Tryz.prog 76 #[.pointer (some ⟨h, 0, none⟩)] w fun e w' => e = .returned (.tuple #[.int .i64 0, .bool false]) ∧ w = w' := by
  obtain ⟨vs, vt, va, m, T, Q, H, hI, hok, hX, hM⟩ := H
  cases m with
  | zero => exact hf_Pop0 H
  | succ m => exact absurd ((hM (T 0)).1 ⟨0, by omega, rfl⟩) (hm _)
end

end Go.Proofs.YtckmdcmkjmpiaaaGreatDoor
