/-
  latchetlaw01: lives; the table that strconv.Itoa reads.
-/
import Derived.Test.YtpejimlmokfppaaDoorOctNum
import Derived.WalkSmall
namespace Go.Proofs.YtpejimlmokfppaaDoor
open Go.RowKit

/-- the table of powers of ten lies as its text lays it -/
def Tab (w : World) : Prop := Lib.TabIs Tryd.prog w "internal/strconv.uint64pow10" .u64 Lib.pow10Tab

theorem gPow : Tryd.prog.globalNamed "internal/strconv.uint64pow10" = some 3 := by kernel_rfl

theorem Tab.lt {w : World} (h : Tab w) : 3 < w.heap.size :=
  World.block_lt_of_cell? w _ (Lib.TabIs.cell h gPow 0 (by decide))

theorem Tab.kp {w w' : World} (h : Tab w) (k : Kp (fun _ => False) w w') : Tab w' :=
  var?_below (k.below (Nat.le_refl _) (fun _ _ h => h)) gPow h.lt h

theorem kp_grow (w : World) (k : Nat) (os : Array Obj) : Kp (fun _ => False) w (Sort.grow (w.drewN k) os) := by
  refine ⟨rfl, rfl, rfl, ?_, fun i hi _ => ?_⟩
  · show w.heap.size ≤ (w.heap ++ os).size
    simp
  · show (w.heap ++ os)[i]? = _
    rw [Array.getElem?_append_left hi]

theorem octet_Dec (n : Int) (w : World) (h0 : -9223372036854775808 ≤ n) (h1 : n ≤ 9223372036854775807) (ht : Tab w) :
    Calls Tryd.prog 20 #[.int .i64 n] w fun e w' => e = .returned (.string ⟨(Lib.itoa n).toArray⟩) ∧ Kp (fun _ => False) w w' := by
  have HT := Lib.hid ht; clear ht
  go_enter Tryd.func20, Tryd.ntmps20
  go_wp2_with fail
  refine (Tryd.strconv_Itoa n h0 h1 _ HT.out).mono ?_
  rintro e w' ⟨rfl, k, os, rfl⟩
  go_wp2_with fail
  go_ret
  exact ⟨rfl, kp_grow _ _ _⟩

end Go.Proofs.YtpejimlmokfppaaDoor
