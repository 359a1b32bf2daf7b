/-
  As Laid, with the two tables of unicode/utf8, and the library's MaxLen out of the world's shape.
-/
import Derived.Test.YtpejimlmokfppaaDoorLaid
import Derived.Shelf.Vars
import GoSem.PinnedTables
namespace Go.Proofs.YtpejimlmokfppaaDoor
open Go.RowKit

def tabFirst : Array Value := (Go.Pinned.utf8FirstZ.map (fun (n : Nat) => Value.int .u8 (n : Int))).toArray
def tabAccept : Array Value := #[128, 191, 160, 191, 128, 159, 144, 191, 128, 143, 0, 0, 0, 0, 0, 0, 0, 0, 0, 0, 0, 0, 0, 0, 0, 0, 0, 0, 0, 0, 0, 0].map (Value.int .u8)

theorem maxLen_cell {W : World} (h : W.ShapedOpen Tryd.prog) : ∃ m, W.cell? ⟨0, 0, none⟩ = some (.int .i64 m) :=
  cell_of_shapedOpen_int (t := 3) (zero := #[.int .i64 0]) h (of_decide_eq_true (by kernel_rfl)) (by kernel_rfl) rfl (by kernel_rfl) (by kernel_rfl) Tryd.underlying3

end Go.Proofs.YtpejimlmokfppaaDoor
