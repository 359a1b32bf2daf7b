/-
  No cell of these rows narrows 'for every input' (looked for: loops, veiled, ifaces, maps, wideKeys, modest, calm, conditions, laid).
  DERIVED. THE GIVEN ROWS OF THIS SEAT. 3 by the template 'for every input the law returns true; each argument reads behind the call as it read before'; 0 by the template 'total and deterministic' (their statements: YtojodmfkenfhlaaTotals.lean).
  GIVEN WITH THE SEED: the statements are not yours to turn. If you find one false, say at which input.
  Laid BY PROGRAM, IN A SANDBOX (cutbox-rows.mjs): the forced cells as the released guide's own fill.sh prints them over the translation 85fd7c200a939bab… (all of the seat's roots in one cut). By AI agents, Wed Nov 11 2026. No macro, syntax, notation, axiom, sorry.
-/
import Derived.Test.YtojodmfkenfhlaaChecked
import GoSem.Claim
import GoSem.ClaimJoined
import GoSem.ClaimMapViews
import Derived.JoinedTies
import Derived.KernelRfl
namespace Go.Proofs.Ytojodmfkenfhlaa
/- THE CELL 'sum', in the pinned program and in every row, IS THE sha256 OF THE DUMP (.gsa) THAT YtojodmfkenfhlaaProg.lean LOADS. Nothing in Lean hashes anything: it is a label: what it is worth is what the hold of that sum in a sandbox is worth. -/
noncomputable def Try.pinned : Pinned := { name := "ytojodmfkenfhlaa", sum := "85fd7c200a939bab771b223e038dca690b3dd37bddf6e6e960859bd79b704643", checked := Try.checked }
namespace Rows
def none {H : Type} : Left H := { results := [], args := [] }

/-- 'latchetlaw26.LubySpares': WHATEVER THE INPUT: true; the input reads as it did. -/
def lubySparesSpec : ChangeSpec := { name := "lubySpares", fn := fun _ => fun
  | [d1, d2] => { results := [.lit (.bool true)], args := [d1, d2] }
  | _ => none }
def lubySparesRow : OpenClaim := { program := "ytojodmfkenfhlaa", sum := "85fd7c200a939bab771b223e038dca690b3dd37bddf6e6e960859bd79b704643", func := "latchet/latchetlaw26.LubySpares", spec := "lubySpares", unfollowed := true, recurses := true, apart := false }
def LubySparesSaid : Prop := lubySparesRow.holds Try.pinned (OpenSpec.ofChange lubySparesSpec)

/-- ITS FALSE NEIGHBOUR: 'it returns false'. Refute it at one input. -/
def lubySparesWrong : ChangeSpec := { name := "lubySpares", fn := fun _ => fun
  | [d1, d2] => { results := [.lit (.bool false)], args := [d1, d2] }
  | _ => none }
def LubySparesWrongFalsely : Prop := lubySparesRow.holds Try.pinned (OpenSpec.ofChange lubySparesWrong)

/-- 'latchetlaw26.LubySums': WHATEVER THE INPUT: true; the input reads as it did. -/
def lubySumsSpec : ChangeSpec := { name := "lubySums", fn := fun _ => fun
  | [d] => { results := [.lit (.bool true)], args := [d] }
  | _ => none }
def lubySumsRow : OpenClaim := { program := "ytojodmfkenfhlaa", sum := "85fd7c200a939bab771b223e038dca690b3dd37bddf6e6e960859bd79b704643", func := "latchet/latchetlaw26.LubySums", spec := "lubySums", unfollowed := true, recurses := true, apart := false }
def LubySumsSaid : Prop := lubySumsRow.holds Try.pinned (OpenSpec.ofChange lubySumsSpec)

/-- ITS FALSE NEIGHBOUR: 'it returns false'. Refute it at one input. -/
def lubySumsWrong : ChangeSpec := { name := "lubySums", fn := fun _ => fun
  | [d] => { results := [.lit (.bool false)], args := [d] }
  | _ => none }
def LubySumsWrongFalsely : Prop := lubySumsRow.holds Try.pinned (OpenSpec.ofChange lubySumsWrong)

/-- 'latchetlaw26.LubyTells': WHATEVER THE INPUT: true; the input reads as it did. -/
def lubyTellsSpec : ChangeSpec := { name := "lubyTells", fn := fun _ => fun
  | [d1, d2] => { results := [.lit (.bool true)], args := [d1, d2] }
  | _ => none }
def lubyTellsRow : OpenClaim := { program := "ytojodmfkenfhlaa", sum := "85fd7c200a939bab771b223e038dca690b3dd37bddf6e6e960859bd79b704643", func := "latchet/latchetlaw26.LubyTells", spec := "lubyTells", unfollowed := true, recurses := true, apart := false }
def LubyTellsSaid : Prop := lubyTellsRow.holds Try.pinned (OpenSpec.ofChange lubyTellsSpec)

/-- ITS FALSE NEIGHBOUR: 'it returns false'. Refute it at one input. -/
def lubyTellsWrong : ChangeSpec := { name := "lubyTells", fn := fun _ => fun
  | [d1, d2] => { results := [.lit (.bool false)], args := [d1, d2] }
  | _ => none }
def LubyTellsWrongFalsely : Prop := lubyTellsRow.holds Try.pinned (OpenSpec.ofChange lubyTellsWrong)

/- THE SECOND FORM. 'bulk': how many values and letters a reading holds, each counted each time it is reached (what is shared counts as often as it is met; a slice's spare places count too). A statement '..UptoSaid' is the law's where the arguments, and the package variables that the reading takes, are together of bulk at most 1048576: NARROWER than '..Said'. Prove '..Said' where nothing that the law and all that it calls make is longer than what came in: it says more and counts as full. Else prove '..UptoSaid'. A law counts once. -/
mutual
def uptoBulk {H : Type} : DataW H → Nat
  | .lit (.string bytes) => bytes.length + 1
  | .lit _ => 1
  | .nil => 1
  | .ptr d => uptoBulk d + 1
  | .slice elems spare => uptoBulkAll elems + uptoBulkAll spare + 1
  | .agg parts => uptoBulkAll parts + 1
  | .iface _ d => uptoBulk d + 1
  | .map entries => uptoBulkEntries entries + 1
  | .held _ => 1
def uptoBulkAll {H : Type} : List (DataW H) → Nat
  | [] => 0
  | d :: r => uptoBulk d + uptoBulkAll r
def uptoBulkEntries {H : Type} : List (Lit × DataW H) → Nat
  | [] => 0
  | x :: r => uptoBulkEntry x + uptoBulkEntries r
def uptoBulkEntry {H : Type} : Lit × DataW H → Nat
  | (.string bytes, d) => bytes.length + uptoBulk d + 1
  | (_, d) => uptoBulk d + 1
 end
def uptoSmall : (H : Type) → List (DataW H) → Bool := fun _ ds => decide (uptoBulkAll ds ≤ 1048576)
def OpenSpec.upto (s : _root_.Go.ChangeSpec) : _root_.Go.OpenSpec := { _root_.Go.OpenSpec.ofChange s with cond := some uptoSmall }

/-- 'latchetlaw26.LubySpares', WHERE WHAT IT READS IS OF BULK AT MOST 1048576: true; the input reads as it did. -/
def lubySparesUptoRow : OpenClaim := { program := "ytojodmfkenfhlaa", sum := "85fd7c200a939bab771b223e038dca690b3dd37bddf6e6e960859bd79b704643", func := "latchet/latchetlaw26.LubySpares", spec := "lubySpares", unfollowed := true, recurses := true, apart := false, narrowed := true }
def LubySparesUptoSaid : Prop := lubySparesUptoRow.holds Try.pinned (OpenSpec.upto lubySparesSpec)

/-- 'latchetlaw26.LubySums', WHERE WHAT IT READS IS OF BULK AT MOST 1048576: true; the input reads as it did. -/
def lubySumsUptoRow : OpenClaim := { program := "ytojodmfkenfhlaa", sum := "85fd7c200a939bab771b223e038dca690b3dd37bddf6e6e960859bd79b704643", func := "latchet/latchetlaw26.LubySums", spec := "lubySums", unfollowed := true, recurses := true, apart := false, narrowed := true }
def LubySumsUptoSaid : Prop := lubySumsUptoRow.holds Try.pinned (OpenSpec.upto lubySumsSpec)

/-- 'latchetlaw26.LubyTells', WHERE WHAT IT READS IS OF BULK AT MOST 1048576: true; the input reads as it did. -/
def lubyTellsUptoRow : OpenClaim := { program := "ytojodmfkenfhlaa", sum := "85fd7c200a939bab771b223e038dca690b3dd37bddf6e6e960859bd79b704643", func := "latchet/latchetlaw26.LubyTells", spec := "lubyTells", unfollowed := true, recurses := true, apart := false, narrowed := true }
def LubyTellsUptoSaid : Prop := lubyTellsUptoRow.holds Try.pinned (OpenSpec.upto lubyTellsSpec)

end Rows
end Go.Proofs.Ytojodmfkenfhlaa
