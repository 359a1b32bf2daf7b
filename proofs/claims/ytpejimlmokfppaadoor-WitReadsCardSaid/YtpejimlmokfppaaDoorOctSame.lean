/-
  The reference's Text and Same.
-/
import Derived.Test.YtpejimlmokfppaaDoorOctText
import Derived.Deep.QuietTactic
import Derived.BigQuiet
namespace Go.Proofs.YtpejimlmokfppaaDoor
open Go.RowKit

theorem bools_ext {l l' : List Bool} (hl : l.length = l'.length) (h : ∀ j, j < l.length → tb l j = tb l' j) : l = l' := by
  apply List.ext_getElem?
  intro j
  by_cases hj : j < l.length
  · have := h j hj
    unfold tb at this
    rw [List.getElem?_eq_getElem hj, List.getElem?_eq_getElem (by omega)] at this ⊢
    simpa using this
  · rw [List.getElem?_eq_none (by omega), List.getElem?_eq_none (by omega)]

theorem push_byte (l : List UInt8) (c : UInt8) : (⟨l.toArray⟩ : ByteArray) ++ ⟨#[c]⟩ = ⟨(l ++ [c]).toArray⟩ := by
  apply ByteArray.ext; simp

set_option maxRecDepth 100000 in
set_option maxHeartbeats 1000000 in
theorem ref_Text (a : Option Addr) (l : List Bool) (cap : Nat) (w : World) (hr : RowAt w a (l.map Value.bool)) (hl : l.length ≤ 100000) :
    Calls Tryd.prog 24 #[.slice a l.length cap] w fun e w' => e = .returned (.string ⟨(signs l).toArray⟩) ∧ w = w' := by
  go_enter Tryd.func24, Tryd.ntmps24
  go_wp2_with fail
  go_loop [3, 4] (fun s i => ∃ (k : Nat) (S : ByteArray), k ≤ l.length ∧ i = .int .i64 k ∧ s = .string S ∧ S = ⟨(signs (l.take k)).toArray⟩) (fun _ i => l.length - (intOf i).toNat)
  case atStart => exact ⟨0, _, Nat.zero_le _, rfl, rfl, rfl⟩
  case round =>
    obtain ⟨k, S, hk, rfl, rfl, hS⟩ := hrel
    have hSz : S.size ≤ 100000 := by rw [hS]; show (signs (l.take k)).toArray.size ≤ _; simp [signs_length]; omega
    have HS := Lib.hid hS; clear hS
    by_cases hlt : k < l.length
    · have hd : decide ((k : Int) < (l.length : Int)) = true := by simp; omega
      have HN := Lib.hid (signs_succ hlt)
      obtain ⟨b, off, rfl, hc⟩ := hr k _ (tb_at hlt)
      have hcat : ¬ 9223372036854775807 < S.size + 1 := by omega
      obtain ⟨x, hx⟩ : ∃ x, tb l k = x := ⟨_, rfl⟩
      rw [hx] at hc HN
      cases x
      · go_wp2_with fail
        refine ⟨⟨k + 1, _, by omega, by simp, rfl, ?_⟩, ?_⟩
        · rw [HN.out, HS.out]; exact push_byte _ _
        · simp [intOf]; omega
      · go_wp2_with fail
        refine ⟨⟨k + 1, _, by omega, by simp, rfl, ?_⟩, ?_⟩
        · rw [HN.out, HS.out]; exact push_byte _ _
        · simp [intOf]; omega
    · have hd : decide ((k : Int) < (l.length : Int)) = false := by simp; omega
      have HE := Lib.hid (show l.take k = l from List.take_of_length_le (by omega))
      go_wp2_with fail
      go_ret
      rw [HS.out, HE.out]
      exact ⟨rfl, rfl⟩

set_option maxHeartbeats 400000 in
theorem ref_Same (a a' : Option Addr) (n n' cap cap' : Nat) (l l' : List Bool) (w : World) (ha : RowAt w a (l.map Value.bool)) (ha' : RowAt w a' (l'.map Value.bool)) (hl : l.length = n) (hl' : l'.length = n') (hn : n ≤ 9223372036854775807) :
    Calls Tryd.prog 19 #[.slice a n cap, .slice a' n' cap'] w fun e w' => e = .returned (.bool (l == l')) ∧ ∃ n, w' = w.drewN n := by
  have HL := Lib.hid hl; clear hl
  have HL' := Lib.hid hl'; clear hl'
  by_cases hne : n = n'
  · subst hne
    have b1 : ((n : Int) != (n : Int)) = false := by simp
    go_enter Tryd.func19, Tryd.ntmps19
    go_wp2
    go_loopw [5] (fun i wr => ∃ k m : Nat, k ≤ n ∧ i = .int .i64 k ∧ (∀ j, j < k → tb l j = tb l' j) ∧ wr = w.drewN m) (fun i _ => n - (intOf i).toNat)
    case atStart => exact ⟨0, 0, Nat.zero_le _, rfl, fun j hj => by omega, rfl⟩
    case round =>
      obtain ⟨k, m, hk, rfl, he, rfl⟩ := hrel
      have HE := Lib.hid he
      clear he
      by_cases hlt : k < n
      · obtain ⟨b, off, rfl, hc⟩ := ha k _ (tb_at (by rw [HL.out]; exact hlt))
        obtain ⟨b', off', rfl, hc'⟩ := ha' k _ (tb_at (by rw [HL'.out]; exact hlt))
        have i1 : (0 : Int) ≤ (k : Int) := by omega
        have i2 : (k : Int) < (n : Int) := by omega
        by_cases hq : tb l k = tb l' k
        · have q1 : (!(tb l k == tb l' k)) = false := by simp [hq]
          have HQ := Lib.hid hq
          clear hq
          go_wp2
          go_quiet (fail)
          go_wp2
          go_roundw
          case rel =>
            refine ⟨k + 1, _, by omega, by go_num, fun j hj => ?_, rfl⟩
            by_cases e : j = k
            · subst e; exact HQ.out
            · exact HE.out j (by omega)
          case measure => simp [intOf]; omega
        · have q1 : (!(tb l k == tb l' k)) = true := by simp [hq]
          have HQ := Lib.hid hq
          clear hq
          go_wp2
          go_quiet (fail)
          go_wp2
          go_ret
          have e : (l == l') = false := by
            rw [beq_eq_false_iff_ne]
            intro e
            exact HQ.out (by rw [e])
          rw [e]
          exact ⟨rfl, _, World.drewN_drewN ..⟩
      · go_wp2
        go_ret
        have e : (l == l') = true := by
          rw [beq_iff_eq]
          exact bools_ext (by rw [HL.out, HL'.out]) (fun j hj => HE.out j (by rw [HL.out] at hj; omega))
        rw [e]
        exact ⟨rfl, _, rfl⟩
  · have b1 : ((n : Int) != (n' : Int)) = true := by simp; omega
    have e : Hid ((l == l') = false) := by
      show _ = _
      rw [beq_eq_false_iff_ne]
      intro e
      exact hne (by rw [← HL.out, ← HL'.out, e])
    clear hne
    go_enter Tryd.func19, Tryd.ntmps19
    go_wp2
    go_ret
    rw [e.out]
    exact ⟨rfl, 0, rfl⟩

end Go.Proofs.YtpejimlmokfppaaDoor
