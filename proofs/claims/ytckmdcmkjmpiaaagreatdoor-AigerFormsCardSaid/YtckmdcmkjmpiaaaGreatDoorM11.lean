/-
  The package-level variables that the rows list: a world that holds them, and the table of powers of ten out of a row's list.
-/
import Derived.Test.YtckmdcmkjmpiaaaGreatDoorM4
import Derived.Lib.LaidTab
import Derived.Stop.LaidErr
set_option linter.unusedVariables false
set_option linter.unusedSimpArgs false
namespace Go.Proofs.YtckmdcmkjmpiaaaGreatDoor
open Go.RowKit

def synS : ByteArray := { data := #[105, 110, 118, 97, 108, 105, 100, 32, 115, 121, 110, 116, 97, 120] }
def rangeS : ByteArray := { data := #[118, 97, 108, 117, 101, 32, 111, 117, 116, 32, 111, 102, 32, 114, 97, 110, 103, 101] }
noncomputable def low : Nat := (World.holding Tryz.prog default ⟨#[], #[], []⟩).heap.size

def putCells (g : Nat) (cs : Array Value) (w : World) : World :=
  { w with heap := w.heap.modify g fun
      | .cells _ t frozen => .cells cs t frozen
      | o => o }

def tab32 : Array Value := #[0, 1, 28, 2, 29, 14, 24, 3, 30, 22, 20, 15, 25, 17, 4, 8, 31, 27, 13, 23, 21, 19, 16, 7, 26, 12, 18, 6, 11, 5, 10, 9].map (Value.int .u8)
def tab64 : Array Value := #[0, 1, 56, 2, 57, 49, 28, 3, 61, 58, 42, 50, 38, 29, 17, 4, 62, 47, 59, 36, 45, 43, 51, 22, 53, 39, 33, 30, 24, 18, 12, 5, 63, 55, 48, 27, 60, 41, 37, 16, 46, 35, 44, 21, 52, 32, 23, 11, 54, 26, 40, 15, 34, 20, 31, 10, 25, 14, 19, 9, 13, 8, 7, 6].map (Value.int .u8)
def tabPow : Array Value := (Lib.pow10Tab.map (Value.int .u64)).toArray

noncomputable def laidWorld (os : Os) : World :=
  putCells 5 tab64 (putCells 4 tab32 (putCells 3 tabPow
    (putCells 2 #[.iface 194 (.pointer (some ⟨low + 1, 0, none⟩))] (putCells 1 #[.iface 194 (.pointer (some ⟨low, 0, none⟩))]
      (World.holding Tryz.prog os ⟨#[.cells #[.string synS] 196, .cells #[.string rangeS] 196], #[], []⟩)))))

theorem gPowType : (Tryz.prog.globals[3]?).map (·.type) = some 190 := by kernel_rfl
theorem cells64 : Tryz.prog.cellsOf 163 = 1 := by kernel_rfl
theorem cellsPow : Tryz.prog.cellsOf 190 = 20 := by kernel_rfl

theorem tab_of_laid {W : World} {x y : String × DataW Unit} {r : List (String × DataW Unit)}
    (h : laidMet Tryz.prog (x :: y :: ("internal/strconv.uint64pow10", Rows.laid_internal_strconv_uint64pow10) :: r) W) : Tab W :=
  Lib.tabIs_of_head (zs := Lib.pow10Tab) gPow gPowType Tryz.underlying190 Tryz.underlying163 cells64 cellsPow (laidMet.tail (laidMet.tail h))

end Go.Proofs.YtckmdcmkjmpiaaaGreatDoor
