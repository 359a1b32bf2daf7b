/-
  How a head that came in is opened.
-/
import Derived.Test.YtojodmfkenfhlaaDoorTailLaws
import Derived.ProofKit
import Derived.Lib.SmallJoins
namespace Go.Proofs.YtojodmfkenfhlaaDoor
open Go.RowKit Go.ChangeShapes Go.WideShapes Go.ChangeAt Go.Joins Go.Deep

theorem head_cells : Tryd.prog.cellsOf 46 = 8 := by kernel_rfl
theorem head_cells1 : Tryd.prog.cellsOf 4 = 1 := by kernel_rfl
theorem head_cells2 : Tryd.prog.cellsOf 3 = 1 := by kernel_rfl

set_option maxRecDepth 100000 in
theorem open_headArg {H : Type} {enc : TypeId × Value → H} {W : World} {base : Nat} {v : Value} {d : DataW H} {ps : List MemPlace}
    (hv : Value.okWide Tryd.prog W .any base 46 v) (h : DataW.Trod enc Tryd.prog W 0 (fun _ => true) true 46 v d ps) : HdArg W v := by
  obtain ⟨cs, rfl, hsz⟩ := okWide_struct Tryd.underlying46 hv
  obtain ⟨l⟩ := cs
  match l, hsz.trans head_cells with
  | [c0, c1, c2, c3, c4, c5, c6, c7], _ =>
    obtain ⟨fuel, hf⟩ := h
    obtain ⟨xs, n, _, _, _, hlen, hg⟩ := DataW.trod_struct Tryd.underlying46 hf
    have g0 : DataW.trod enc Tryd.prog W 0 (fun _ => true) true n 4 [c0] = xs[0]? := by simpa [Value.cells, head_cells1, head_cells2] using hg 0 _ rfl
    have g1 : DataW.trod enc Tryd.prog W 0 (fun _ => true) true n 3 [c1] = xs[1]? := by simpa [Value.cells, head_cells1, head_cells2] using hg 1 _ rfl
    have g2 : DataW.trod enc Tryd.prog W 0 (fun _ => true) true n 3 [c2] = xs[2]? := by simpa [Value.cells, head_cells1, head_cells2] using hg 2 _ rfl
    have g3 : DataW.trod enc Tryd.prog W 0 (fun _ => true) true n 3 [c3] = xs[3]? := by simpa [Value.cells, head_cells1, head_cells2] using hg 3 _ rfl
    have g4 : DataW.trod enc Tryd.prog W 0 (fun _ => true) true n 3 [c4] = xs[4]? := by simpa [Value.cells, head_cells1, head_cells2] using hg 4 _ rfl
    have g5 : DataW.trod enc Tryd.prog W 0 (fun _ => true) true n 3 [c5] = xs[5]? := by simpa [Value.cells, head_cells1, head_cells2] using hg 5 _ rfl
    have g6 : DataW.trod enc Tryd.prog W 0 (fun _ => true) true n 3 [c6] = xs[6]? := by simpa [Value.cells, head_cells1, head_cells2] using hg 6 _ rfl
    have g7 : DataW.trod enc Tryd.prog W 0 (fun _ => true) true n 3 [c7] = xs[7]? := by simpa [Value.cells, head_cells1, head_cells2] using hg 7 _ rfl
    match xs, hlen with
    | [y0, y1, y2, y3, y4, y5, y6, y7], _ =>
      obtain ⟨x0, e0, _⟩ := DataW.trod_bool Tryd.underlying4 g0
      obtain ⟨x1, e1, _⟩ := DataW.trod_int Tryd.underlying3 g1
      obtain ⟨x2, e2, _⟩ := DataW.trod_int Tryd.underlying3 g2
      obtain ⟨x3, e3, _⟩ := DataW.trod_int Tryd.underlying3 g3
      obtain ⟨x4, e4, _⟩ := DataW.trod_int Tryd.underlying3 g4
      obtain ⟨x5, e5, _⟩ := DataW.trod_int Tryd.underlying3 g5
      obtain ⟨x6, e6, _⟩ := DataW.trod_int Tryd.underlying3 g6
      obtain ⟨x7, e7, _⟩ := DataW.trod_int Tryd.underlying3 g7
      simp only [List.cons.injEq, and_true] at e0 e1 e2 e3 e4 e5 e6 e7
      subst e0 e1 e2 e3 e4 e5 e6 e7
      exact ⟨⟨x0, x1, x2, x3, x4, x5, x6, x7⟩, rfl⟩

end Go.Proofs.YtojodmfkenfhlaaDoor
