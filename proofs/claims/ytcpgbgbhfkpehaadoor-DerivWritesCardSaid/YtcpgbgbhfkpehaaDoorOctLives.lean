/-
  latchetlaw01: lives; the table that strconv.Itoa reads.
-/
import Derived.Test.YtcpgbgbhfkpehaaDoorOctNum
import Derived.WalkSmall
namespace Go.Proofs.YtcpgbgbhfkpehaaDoor
open Go.RowKit

/-- the table of powers of ten lies as its text lays it -/
def Tab (w : World) : Prop := Lib.TabIs Tryd.prog w "internal/strconv.uint64pow10" .u64 Lib.pow10Tab

theorem gPow : Tryd.prog.globalNamed "internal/strconv.uint64pow10" = some 5 := by kernel_rfl

theorem Tab.lt {w : World} (h : Tab w) : 5 < w.heap.size :=
  World.block_lt_of_cell? w _ (Lib.TabIs.cell h gPow 0 (by decide))

theorem Tab.kp {w w' : World} (h : Tab w) (k : Kp (fun _ => False) w w') : Tab w' :=
  var?_below (k.below (Nat.le_refl _) (fun _ _ h => h)) gPow h.lt h

theorem kp_grow (w : World) (k : Nat) (os : Array Obj) : Kp (fun _ => False) w (Sort.grow (w.drewN k) os) := by
  refine ⟨rfl, rfl, rfl, ?_, fun i hi _ => ?_⟩
  · show w.heap.size ≤ (w.heap ++ os).size
    simp
  · show (w.heap ++ os)[i]? = _
    rw [Array.getElem?_append_left hi]

theorem octet_Dec (n : Int) (w : World) (h0 : -9223372036854775808 ≤ n) (h1 : n ≤ 9223372036854775807) (ht : Tab w) :
    Calls Tryd.prog 74 #[.int .i64 n] w fun e w' => e = .returned (.string ⟨(Lib.itoa n).toArray⟩) ∧ Kp (fun _ => False) w w' := by
  have HT := Lib.hid ht; clear ht
  go_enter Tryd.func74, Tryd.ntmps74
  go_wp2_with fail
  refine (Tryd.strconv_Itoa n h0 h1 _ HT.out).mono ?_
  rintro e w' ⟨rfl, k, os, rfl⟩
  go_wp2_with fail
  go_ret
  exact ⟨rfl, kp_grow _ _ _⟩

set_option maxRecDepth 100000 in
set_option maxHeartbeats 1000000 in
theorem oct_lives (w : World) (ht : Tab w) : Calls Tryd.prog 19 #[] w fun e w' => e = .returned (.bool true) ∧ Kp (fun _ => False) w w' := by
  have g1 : getT ⟨#[120, 172, 2]⟩ 1 = (300, 3, 0) := by decide +kernel
  have g2 : getT ⟨#[128, 0]⟩ 0 = (0, 0, 2) := by decide +kernel
  have g3 : natT ⟨#[48, 55]⟩ 0 = (0, 0, 2) := by decide +kernel
  have g4 : (numL 5 300).toArray = #[172, 2] := by decide +kernel
  have g5 : (Lib.itoa (-7)).toArray = #[45, 55] := by decide +kernel
  have G1 := Lib.hid g1; clear g1
  have G2 := Lib.hid g2; clear g2
  have G3 := Lib.hid g3; clear g3
  have G4 := Lib.hid g4; clear g4
  have G5 := Lib.hid g5; clear g5
  have HT := Lib.hid ht; clear ht
  go_enter Tryd.func19, Tryd.ntmps19
  go_wp2_with fail
  refine (octet_Get _ 1 _ (by decide)).mono ?_
  rintro e w' ⟨rfl, rfl⟩
  rw [G1.out]
  unfold tripV
  go_wp2_with fail
  refine (octet_Get _ 0 _ (by decide)).mono ?_
  rintro e w' ⟨rfl, rfl⟩
  rw [G2.out]
  unfold tripV
  go_wp2_with fail
  refine (octet_Nat _ 0 _ (by decide)).mono ?_
  rintro e w1 ⟨rfl, hK1⟩
  rw [G3.out]
  unfold tripI
  go_wp2_with fail
  refine (octet_Num 300 _ (by decide)).mono ?_
  rintro e w2 ⟨rfl, hK2⟩
  rw [G4.out]
  go_wp2_with fail
  refine (octet_Dec (-7) _ (by decide) (by decide) ((HT.out.kp hK1).kp hK2)).mono ?_
  rintro e w3 ⟨rfl, hK3⟩
  rw [G5.out]
  go_wp2_with fail
  go_ret
  exact ⟨rfl, (hK1.trans hK2 (fun _ _ h => h)).trans hK3 (fun _ _ h => h)⟩

end Go.Proofs.YtcpgbgbhfkpehaaDoor
