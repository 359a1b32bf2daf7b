/-
  latchetref01.Num and Dec: what they compute.
-/
import Derived.Test.YtcpgbgbhfkpehaaDoorOctLives
import Derived.Test.YtcpgbgbhfkpehaaDoorOctPutPlain
import Derived.Deep.RegionWith
namespace Go.Proofs.YtcpgbgbhfkpehaaDoor
open Go.RowKit

/-- 'string([]byte{b})' -/
theorem one_string (E : Nat) (hE : E < 256) (u : World) :
    (convert 81 9 (.slice (some ⟨u.heap.size, 0, none⟩) 1 1)).run Tryd.prog (u.alloc (.cells #[.int .u8 (E : Int)] 5)) = .ok (.string ⟨#[UInt8.ofNat E]⟩) (u.alloc (.cells #[.int .u8 (E : Int)] 5)) := by
  have h := run_convert_bytes_back (P := Tryd.prog) (u.alloc (.cells #[.int .u8 (E : Int)] 5)) 81 9 5 ⟨u.heap.size, 0, none⟩ 1 [UInt8.ofNat E] Tryd.underlying81 Tryd.underlying5 Tryd.underlying9 (fun j hj => by
    have hj0 : j = 0 := by simpa using hj
    subst hj0
    rw [add_plain', Nat.zero_add]
    refine (World.cell?_alloc_at _ _ _ _ rfl).trans ?_
    simp [ofNat_toNat hE])
  exact h

theorem cat_bytes (a b : List UInt8) : (⟨a.toArray⟩ : ByteArray) ++ ⟨b.toArray⟩ = ⟨(a ++ b).toArray⟩ := by
  apply ByteArray.ext; simp

set_option maxHeartbeats 1000000 in
theorem ref_Num (n : Nat) (w : World) (hn : n < 4294967296) :
    Calls Tryd.prog 103 #[.int .u32 n] w fun e w' => e = .returned (.string ⟨(numL 5 n).toArray⟩) ∧ Kp (fun _ => False) w w' := by
  go_enter Tryd.func103, Tryd.ntmps103
  go_wp2
  go_loopw [0, 3] (fun v0 v3 wr => ∃ (f m : Nat) (L : List UInt8), v0 = .int .u32 m ∧ m ≤ n ∧ f ≤ 5 ∧ m < 128 ^ f ∧ L.length = 5 - f ∧ L ++ numL f m = numL 5 n ∧ v3 = .string ⟨L.toArray⟩ ∧ Kp (fun _ => False) w wr) (fun v0 _ _ => (intOf v0).toNat)
  case atStart => exact ⟨5, n, [], rfl, Nat.le_refl _, by omega, by omega, rfl, rfl, rfl, Kp.refl _ _⟩
  case round =>
    obtain ⟨f, m, L, rfl, hmn, hf, hm, hL, hN, rfl, hK⟩ := hrel
    have HM := Lib.hid hm; clear hm
    have HL := Lib.hid hL; clear hL
    have HN := Lib.hid hN; clear hN
    by_cases h : 128 ≤ m
    · have hd : decide ((128 : Int) ≤ (m : Int)) = true := by simp; omega
      have hf0 : ∃ f', f = f' + 1 := by
        cases f with
        | zero => have := HM.out; simp at this; omega
        | succ f' => exact ⟨f', rfl⟩
      obtain ⟨f', rfl⟩ := hf0
      obtain ⟨E, hE, hE2⟩ : ∃ E : Nat, (m : Int) % 128 + 128 = (E : Int) ∧ E = m % 128 + 128 := ⟨m % 128 + 128, by omega, rfl⟩
      have hE3 : E < 256 := by omega
      have hcv := one_string E hE3
      have HN2 := Lib.hid (show L ++ [UInt8.ofNat E] ++ numL f' (m / 128) = numL 5 n by
        rw [← HN.out, List.append_assoc, hE2]; congr 1; rw [numL, if_neg (by omega)]; rfl)
      have HM2 := Lib.hid (show m / 128 < 128 ^ f' by have := HM.out; rw [Nat.pow_succ] at this; omega)
      clear hE2
      go_wp2_with fail
      case isTrue hbig => exfalso; have := HL.out; omega
      refine ⟨⟨f', m / 128, L ++ [UInt8.ofNat E], by simp, by omega, by omega, HM2.out, ?_, HN2.out, ?_, hK.alloc _⟩, ?_⟩
      · have := HL.out; simp; omega
      · exact congrArg Value.string (cat_bytes _ _)
      · simp [intOf]; omega
    · have hd : decide ((128 : Int) ≤ (m : Int)) = false := by simp; omega
      have hcv := one_string m (by omega)
      have HN2 := Lib.hid (show L ++ [UInt8.ofNat m] = numL 5 n by
        have h0 : numL f m = [UInt8.ofNat m] := by
          cases f with
          | zero => rfl
          | succ f' => rw [numL, if_pos (by omega)]
        rw [← HN.out, h0])
      go_wp2_with fail
      case isTrue hbig => exfalso; have := HL.out; omega
      go_ret
      exact ⟨congrArg (fun x => Ending.returned (Value.string x)) ((cat_bytes _ _).trans (by rw [HN2.out])), hK.alloc _⟩

end Go.Proofs.YtcpgbgbhfkpehaaDoor
