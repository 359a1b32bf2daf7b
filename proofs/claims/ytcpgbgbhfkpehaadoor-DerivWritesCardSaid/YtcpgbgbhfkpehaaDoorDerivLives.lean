/-
  latchetlaw28.lives.
-/
import Derived.Test.YtcpgbgbhfkpehaaDoorDerivSame
namespace Go.Proofs.YtcpgbgbhfkpehaaDoor
open Go.RowKit

theorem lineT_size {s : ByteArray} {p : Nat} (hp : p ≤ s.size) : (lineT s (p : Nat)).1.size ≤ s.size := by
  unfold lineT
  rw [if_neg (by omega)]
  split
  · simp only [ByteArray.size_extract]; omega
  · exact Nat.zero_le _

def dlText : ByteArray := ⟨#[43, 32, 49, 32, 33, 50, 10, 43, 10]⟩
def dlLines : List (Bool × List Nat) := [(false, [2, 5]), (false, [])]

theorem dl_text : linesText (ltl dlLines) = [43, 32, 49, 32, 33, 50, 10, 43, 10] := by decide +kernel
theorem dl_good : ∀ x ∈ dlLines, goodL x.2 := by
  intro x hx
  simp [dlLines] at hx
  rcases hx with rfl | rfl
  · intro y hy; simp at hy; omega
  · intro y hy; cases hy
theorem dl_read : derivT dlText = ⟨dlLines, 0, 0⟩ := text_derivT dl_good (by rw [dl_text]; rfl) (by decide)

theorem dl_lines (w : World) : LnsAt ((w.alloc (.cells #[.int .i64 2, .int .i64 5] 3)).alloc (.cells #[.bool false, .slice (some ⟨w.heap.size, 0, none⟩) 2 2, .bool false, .slice none 0 0] 86)) (some ⟨w.heap.size + 1, 0, none⟩) (toI dlLines) := by
  have h1 := Blk.new (w.alloc (.cells #[.int .i64 2, .int .i64 5] 3)) #[.bool false, .slice (some ⟨w.heap.size, 0, none⟩) 2 2, .bool false, .slice none 0 0] 86
  rw [World.size_alloc] at h1
  have h0 := (Blk.new w #[.int .i64 2, .int .i64 5] 3).alloc (.cells #[.bool false, .slice (some ⟨w.heap.size, 0, none⟩) 2 2, .bool false, .slice none 0 0] 86)
  refine ⟨[(false, .slice (some ⟨w.heap.size, 0, none⟩) 2 2), (false, .slice none 0 0)], h1.rowAt (n := 4) rfl, rfl, ?_⟩
  intro k r x hr hx
  match k, hr, hx with
  | 0, hr, hx =>
    simp [toI, dlLines] at hr hx
    subst hr hx
    exact ⟨rfl, some ⟨w.heap.size, 0, none⟩, 2, rfl, Nat.le_refl _, by simp [maxLen], fun h => by simp at h, h0.rowAt (n := 2) rfl⟩
  | 1, hr, hx =>
    simp [toI, dlLines] at hr hx
    subst hr hx
    exact ⟨rfl, none, 0, rfl, Nat.le_refl _, by simp [maxLen], fun h => rfl, RowAt.nil _ _⟩
  | n + 2, hr, hx => simp at hr

set_option maxRecDepth 100000 in
set_option maxHeartbeats 4000000 in
theorem deriv_lives (w : World) (ht : Tab w) (hm : ML w) : Calls Tryd.prog 46 #[] w fun e w' => e = .returned (.bool true) ∧ Kp (fun _ => False) w w' := by
  have HT := Lib.hid ht; clear ht
  have HRd := Lib.hid (deriv_Read_in dlText w (by decide) (fun p hp => Nat.le_trans (lineT_size hp) (by decide)) hm)
  rw [dl_read] at HRd
  unfold dlText at HRd
  clear hm
  go_enter Tryd.func46, Tryd.ntmps46
  go_wp2_with fail
  refine HRd.out.mono ?_
  rintro e w2 ⟨v, rs, rfl, hO, hL, hK⟩
  obtain ⟨a, c, rfl, _⟩ := hO.form
  obtain ⟨hA, hm⟩ := LnsAt.of hO hL
  rw [show (toI dlLines).length = 2 by rfl] at hm
  rw [hm]
  have hK3 := (hK.alloc (.cells #[.int .i64 2, .int .i64 5] 3)).alloc (.cells #[.bool false, .slice (some ⟨w2.heap.size, 0, none⟩) 2 2, .bool false, .slice none 0 0] 86)
  have hKa := ((Kp.refl (fun _ => False) w2).alloc (.cells #[.int .i64 2, .int .i64 5] 3)).alloc (.cells #[.bool false, .slice (some ⟨w2.heap.size, 0, none⟩) 2 2, .bool false, .slice none 0 0] 86)
  have HSm := Lib.hid (ref28_Same a (some ⟨w2.heap.size + 1, 0, none⟩) c 2 (toI dlLines) 2 _ (hA.kp hKa) (dl_lines w2) rfl (by decide))
  have HA := Lib.hid (hA.kp hKa)
  have HK3 := Lib.hid hK3
  have HWr := Lib.hid (fun u hr ht => deriv_Write a c (toI dlLines) 2 u hr rfl (by decide) (by rw [lti_toI dl_good, dl_text]; decide) (fun x hx => by simp [toI, dlLines] at hx; rcases hx with rfl | rfl <;> simp) ht)
  rw [lti_toI dl_good, dl_text] at HWr
  have HLe := Lib.hid (fun u hr => deriv_Learned a c (toI dlLines) 2 u hr rfl (by decide))
  rw [show ((learnt (toI dlLines) : Nat) : Int) = 2 by rfl] at HLe
  clear hO hL hK hA hm hK3 hKa
  go_wp2_with fail
  refine HSm.out.mono ?_
  rintro e w' ⟨rfl, q, rfl⟩
  have hK4 := HK3.out.drewN q
  have hA4 := HA.out.drewN q
  go_wp2_with fail
  refine (HWr.out _ hA4 (HT.out.kp hK4)).mono ?_
  rintro e w5 ⟨rfl, hK5⟩
  have hA5 := hA4.kp hK5
  have hK6 := hK4.trans hK5 (fun _ _ h => h)
  go_wp2_with fail
  refine (HLe.out _ hA5).mono ?_
  rintro e w7 ⟨rfl, hK7⟩
  have hend := hK6.trans hK7 (fun _ _ h => h)
  go_wp2_with fail
  go_ret
  exact ⟨rfl, hend⟩

end Go.Proofs.YtcpgbgbhfkpehaaDoor
