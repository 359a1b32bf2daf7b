/-
  heap.up: a thing rises.
-/
import Derived.Test.YtccdjjlbiibjgaaHeapSwap
namespace Go.Proofs.Ytccdjjlbiibjgaa
open Go.RowKit

theorem quo2 (i : Nat) (h : 0 < i) : ((i : Int) - 1).tdiv 2 = (((i - 1) / 2 : Nat) : Int) := by
  rw [show (i : Int) - 1 = ((i - 1 : Nat) : Int) by omega]
  rw [Int.tdiv_eq_ediv_of_nonneg (by omega)]
  omega

set_option maxRecDepth 100000 in
set_option maxHeartbeats 2000000 in
theorem heap_up {w : World} {base h n m : Nat} {vs vt va : Value} {S T : Nat → Nat} {Q : Nat → Int} (H : Hp w base h vs vt va n m S T Q) (hI : Inv n m T Q) (hn : n ≤ 1048576) (hm : m ≤ 1048576) {i : Nat} (hi : i < m) (hW : Weak (ah S) T m i) :
    Calls Try.prog 18 #[.pointer (some ⟨h, 0, none⟩), .int .i64 i] w fun e w' =>
      e = .returned (.tuple #[]) ∧ ∃ (T' : Nat → Nat) (Q' : Nat → Int) (j : Nat), Hp w' base h vs vt va n m S T' Q' ∧ Inv n m T' Q' ∧ Sub T' m T m ∧ j < m ∧ T' j = T i ∧ Weak (ah S) T' m j ∧ UpOK (ah S) T' j ∧ (DownOK (ah S) T m i → DownOK (ah S) T' m j) ∧ Kp (fun j => base ≤ j) w w' := by
  have HI0 := Lib.hid hI; clear hI
  have HW0 := Lib.hid hW; clear hW
  go_enter Try.func18, Try.ntmps18
  go_wp2_with fail
  go_loopw [1, 4] (fun v1 v4 wr => ∃ (k : Nat) (T1 : Nat → Nat) (Q1 : Nat → Int), v1 = .int .i64 k ∧ v4 = .int .i64 (((k : Int) - 1).tdiv 2) ∧ k < m ∧ Hp wr base h vs vt va n m S T1 Q1 ∧ Inv n m T1 Q1 ∧ Sub T1 m T m ∧ T1 k = T i ∧ Weak (ah S) T1 m k ∧ (DownOK (ah S) T m i → DownOK (ah S) T1 m k) ∧ Kp (fun j => base ≤ j) w wr) (fun v1 _ _ => (intOf v1).toNat)
  case atStart => exact ⟨i, T, Q, rfl, rfl, hi, H, HI0.out, Sub.refl _ _, rfl, HW0.out, id, Kp.refl _ _⟩
  case round =>
    clear H
    obtain ⟨k, T1, Q1, rfl, rfl, hk, H, hI, hSub, hTk, hW, hD, hK⟩ := hrel
    have HI := Lib.hid hI; clear hI
    have HX := Lib.hid (And.intro hSub (And.intro hTk (And.intro hW hD))); clear hSub hTk hW hD
    by_cases hp : 0 < k
    · obtain ⟨p, hpk, hpe⟩ : ∃ p, p = (k - 1) / 2 ∧ ((k : Int) - 1).tdiv 2 = ((p : Nat) : Int) := ⟨_, rfl, quo2 k hp⟩
      have hpm : p < m := by omega
      have HPK := Lib.hid hpk; clear hpk
      rw [hpe]
      clear hpe
      have hg : decide ((0 : Int) < (k : Int)) = true := by simp; omega
      obtain ⟨gt, ct, hvt, hgt, _⟩ := H.t.leads (by rw [nts_length]; omega)
      rw [nts_length] at hvt
      have HT := H.t
      rw [hvt] at HT
      have c1 : wr.cell? ⟨h, 1, none⟩ = some (.slice (some ⟨gt, 0, none⟩) m ct) := by rw [← hvt]; exact H.blk.cell (i := 1) rfl
      have hck := HT.cell (nts_at hk)
      have hcp := HT.cell (nts_at hpm)
      have k1 : (k : Int) < (m : Int) := by omega
      have k0 : (0 : Int) ≤ (k : Int) := by omega
      have p1 : (p : Int) < (m : Int) := by omega
      have p0 : (0 : Int) ≤ (p : Int) := by omega
      have ht1 := (HI.out.here k hk).1
      have ht2 := (HI.out.here p hpm).1
      have HH := Lib.hid H; clear H
      clear HT
      by_cases ha : aheadB S (T1 k) (T1 p) = true
      · go_wp2_with fail
        go_quiet ((go_at_call 27; exact Calls.quiet_of (heap_ahead (HH.out.drewN _) hn ht1 ht2)))
        rw [ha]
        go_wp2_with fail
        refine (heap_swap (HH.out.drewN _) HI.out hn hm hk hpm).mono ?_
        rintro e w2 ⟨rfl, H2, hK2⟩
        go_wp2_with fail
        obtain ⟨hw', hd'⟩ := up_step (ah_ord S) HX.out.2.2.1 hp HPK.out hk ha
        refine ⟨⟨p, _, _, rfl, rfl, hpm, H2, HI.out.swap hk hpm, Sub.trans (Sub.sw hk hpm) HX.out.1, by rw [sw_r]; exact HX.out.2.1, hw', fun _ => hd', (hK.drewN _).trans hK2 (fun _ _ h => h)⟩, ?_⟩
        have := HPK.out
        simp [intOf]; omega
      · have ha' : aheadB S (T1 k) (T1 p) = false := by simpa using ha
        go_wp2_with fail
        go_quiet ((go_at_call 27; exact Calls.quiet_of (heap_ahead (HH.out.drewN _) hn ht1 ht2)))
        rw [ha']
        go_wp2_with fail
        go_end0
        exact ⟨rfl, T1, Q1, k, HH.out.drewN _, HI.out, HX.out.1, hk, HX.out.2.1, HX.out.2.2.1, fun _ => by rw [← HPK.out]; exact ha, HX.out.2.2.2, hK.drewN _⟩
    · have hg : decide ((0 : Int) < (k : Int)) = false := by simp; omega
      have HH := Lib.hid H; clear H
      go_wp2_with fail
      go_quiet (fail)
      go_wp2_with fail
      go_end0
      exact ⟨rfl, T1, Q1, k, HH.out.drewN _, HI.out, HX.out.1, hk, HX.out.2.1, HX.out.2.2.1, fun h => absurd h hp, HX.out.2.2.2, hK.drewN _⟩

end Go.Proofs.Ytccdjjlbiibjgaa
