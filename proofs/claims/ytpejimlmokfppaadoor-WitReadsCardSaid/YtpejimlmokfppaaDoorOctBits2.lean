/-
  The reference's Bits.
-/
import Derived.Test.YtpejimlmokfppaaDoorOctBits
namespace Go.Proofs.YtpejimlmokfppaaDoor
open Go.RowKit

theorem boolInfo : (Tryd.prog.info? 4).map (fun i => (i.zero, i.size, i.bytes)) = some (some (.bool false), 1, 1) := by kernel_rfl

set_option maxRecDepth 100000 in
set_option maxHeartbeats 1000000 in
theorem ref_Bits (s : ByteArray) (w : World) (hs : s.size ≤ 100000) :
    Calls Tryd.prog 31 #[.string s] w fun e w' => ∃ v, e = .returned (.tuple #[v, .int .i64 (bitsC s)]) ∧ Own w' w.heap.size 4 v ((bitsR s).map Value.bool) ∧ Kp (fun _ => False) w w' := by
  go_enter Tryd.func31, Tryd.ntmps31
  go_wp2_with fail
  go_loopw [4, 5] (fun v i wr => ∃ (k : Nat), k ≤ s.size ∧ i = .int .i64 k ∧ (∀ j, j < k → goodAt s j) ∧ Own wr w.heap.size 4 v ((bitsL s k).map Value.bool) ∧ Kp (fun _ => False) w wr) (fun _ i _ => s.size - (intOf i).toNat)
  case atStart => exact ⟨0, Nat.zero_le _, rfl, fun j hj => by omega, own_bools (l := []) (Blk.new _ _ _) (Nat.le_refl _) (Nat.zero_le _), (Kp.refl _ _).alloc _⟩
  case round =>
    obtain ⟨k, hk, rfl, hgd, hO, hK⟩ := hrel
    have HG := Lib.hid hgd; clear hgd
    have hlen : ((bitsL s k).map Value.bool).length = k := by rw [List.length_map, bitsL_length]
    have HLN := Lib.hid hlen; clear hlen
    by_cases hlt : k < s.size
    · have hd : decide ((k : Int) < (s.size : Int)) = true := by simp; omega
      have hb2 := bt_lt s k
      obtain ⟨b, hb0⟩ : ∃ b, b = bt s k := ⟨_, rfl⟩
      have hb := bt_eq hlt
      rw [← hb0] at hb2 hb
      have HB := Lib.hid hb0; clear hb0
      have HS := Lib.hid (bitsL_succ s k)
      by_cases hg : b = 48 ∨ b = 49
      · have hgo : goodAt s k := by unfold goodAt; rw [← HB.out]; exact hg
        have HG2 := Lib.hid (show ∀ j, j < k + 1 → goodAt s j from fun j hj => by
          by_cases e : j = k
          · subst e; exact hgo
          · exact HG.out j (by omega))
        clear hgo
        obtain ⟨x, hx⟩ : ∃ x : Bool, ((b : Int) == 49) = x := ⟨_, rfl⟩
        have HX := Lib.hid (show bitAt s k = x by rw [← hx]; unfold bitAt; rw [← HB.out]; rcases hg with rfl | rfl <;> rfl)
        have hn : ((b : Int) != 48) = false ∨ ((b : Int) != 49) = false := by rcases hg with rfl | rfl <;> simp
        have hcase : x = true ∧ b = 49 ∨ x = false ∧ b = 48 := by rcases hg with rfl | rfl <;> simp at hx <;> simp [← hx]
        clear hx hn hg HB
        rcases hcase with ⟨rfl, rfl⟩ | ⟨rfl, rfl⟩
        · go_wp2_with (at_builtin; refine wpList_append1 rfl _ _ 22 4 rfl Tryd.underlying22 boolInfo rfl (hO.alloc _) rfl ⟨wr.heap.size, 0, none⟩ (.bool true) rfl ?c1 rfl ?c2 ?c3 ?c4 ?_)
          case c1 => exact World.cell?_alloc_at _ _ _ _ rfl
          case c2 => rw [HLN.out]; omega
          case c3 => rw [HLN.out]; unfold maxLen; omega
          case c4 => have := hK.size; simp; omega
          intro v' w1 hO1 hg1
          have hK1 : Kp (fun _ => False) w w1 := (hK.alloc _).grown hg1 (fun j hj hlt => by have := (hO.lt j hj).1; omega)
          have hO2 : Own w1 w.heap.size 4 v' ((bitsL s (k + 1)).map Value.bool) := by rw [HS.out, HX.out, List.map_append]; exact hO1
          clear hO hg1 hO1
          go_wp2_with fail
          refine ⟨⟨k + 1, by omega, by simp, HG2.out, hO2, hK1⟩, ?_⟩
          simp [intOf]; omega
        · go_wp2_with (at_builtin; refine wpList_append1 rfl _ _ 22 4 rfl Tryd.underlying22 boolInfo rfl (hO.alloc _) rfl ⟨wr.heap.size, 0, none⟩ (.bool false) rfl ?c1 rfl ?c2 ?c3 ?c4 ?_)
          case c1 => exact World.cell?_alloc_at _ _ _ _ rfl
          case c2 => rw [HLN.out]; omega
          case c3 => rw [HLN.out]; unfold maxLen; omega
          case c4 => have := hK.size; simp; omega
          intro v' w1 hO1 hg1
          have hK1 : Kp (fun _ => False) w w1 := (hK.alloc _).grown hg1 (fun j hj hlt => by have := (hO.lt j hj).1; omega)
          have hO2 : Own w1 w.heap.size 4 v' ((bitsL s (k + 1)).map Value.bool) := by rw [HS.out, HX.out, List.map_append]; exact hO1
          clear hO hg1 hO1
          go_wp2_with fail
          refine ⟨⟨k + 1, by omega, by simp, HG2.out, hO2, hK1⟩, ?_⟩
          simp [intOf]; omega
      · have hne0 : ¬ b = 48 := fun h => hg (.inl h)
        have hne1 : ¬ b = 49 := fun h => hg (.inr h)
        have HN := Lib.hid (notGood hlt (by unfold goodAt; rw [← HB.out]; exact hg))
        clear hg
        have q0 : ((b : Int) != 48) = true := by rw [bne_iff_ne]; omega
        have q1 : ((b : Int) != 49) = true := by rw [bne_iff_ne]; omega
        clear hne0 hne1
        go_wp2_with fail
        go_ret2
        rw [HN.out.1, HN.out.2]
        exact ⟨_, rfl, Own.nil _ _ _, hK⟩
    · have hd : decide ((k : Int) < (s.size : Int)) = false := by simp; omega
      have ek : k = s.size := by omega
      have HI := Lib.hid (isGood (s := s) (fun i hi => HG.out i (by omega)))
      have HE := Lib.hid ek; clear ek
      go_wp2_with fail
      go_ret2
      rw [HI.out.1, HI.out.2, ← HE.out]
      exact ⟨_, rfl, hO, hK⟩

end Go.Proofs.YtpejimlmokfppaaDoor
